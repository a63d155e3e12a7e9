/- Joined texts. -/
import Derived.Test.YtglokdbiggbkjaaGreatMgWorldTrace0
import Derived.Test.YtglokdbiggbkjaaGreatMgWorldTrace8
import Derived.Test.YtglokdbiggbkjaaGreatMgWorldTrace21
import Derived.Test.YtglokdbiggbkjaaGreatMgWorldTrace23
import Derived.Test.YtglokdbiggbkjaaGreatMgWorldTrace24
set_option linter.unusedVariables false
set_option linter.unusedSimpArgs false
set_option linter.defProp false
set_option maxRecDepth 100000
set_option maxHeartbeats 16000000
open Go.Proofs.Tryz
namespace Go.Proofs.YtglokdbiggbkjaaGreat
open Go.IntKind(i64)
open Go.Value(int bool slice agg tuple pointer)
open Go.Ending(returned)
open Go.Obj(cells)
variable{n N j a nd L:Nat}{ml:Nat->Nat}{B BC:Nat->Prop}{w w' w0:World}{P T:List Int}{BB:Int}
section
open Go
variable{p':Sp}{s':Ar}{W':List Int}
def fm(c:CoC)(N:Nat)(x:Nu)(i:Nat)(p:Sp):Co×Dr×Int:=
 if p.a=1 then
  if p.pc=1 then(onA x.st (addA x.st.s (gaA (c.node i)) 1),x.d,2)
  else if p.pc=2 then(onA x.st (af x.st.s (nuFl N)),x.d,if ldW x.st.s.W (nuFl N)=0 then 10 else 2)
  else(onA x.st (addA x.st.s (gaW (c.node i)) 1),x.d,0)
 else if p.pc=7 then(ak c x.st i,x.d,if bB (sv x.st.T i) (sv (ak c x.st i).T i)then 8 else 7)
 else if p.pc=12 then(aA (onA x.st (ae x.st.s (nuFl N) 0)) i,x.d,13)
 else if p.pc=13 then(ak c x.st i,x.d,if bB (sv x.st.T i) (sv (ak c x.st i).T i)then 0 else 13)
 else if p.pc=5 then(onA x.st (ae x.st.s (nuFl N) 0),dV x.d N false,6)
 else if p.pc=8 then(onA x.st (ae x.st.s (nuFl N) 1),dV x.d N true,9)
 else(onA x.st (aj x.st.s x.d).1,(aj x.st.s x.d).2.1,if (aj x.st.s x.d).2.2=false then p.pc else if p.pc=6 then 8 else if (aj x.st.s x.d).2.1.clear=true then 10 else 5)
def a7(c:CoC)(N:Nat)(x:Nu)(i:Nat):Nu:=
 if (sv x.U i).pc=0\/(sv x.U i).pc=10 then x
 else⟨(fm c N x i (sv x.U i)).1,(fm c N x i (sv x.U i)).2.1,x.U.set i {(sv x.U i)with pc:=(fm c N x i (sv x.U i)).2.2}⟩
def fE(p:Sp):Bool:=decide (p.a=1/\(p.pc=2\/p.pc=10\/p.pc=11))
def dG(p:Sp):Prop:=p.a=1/\(p.pc=10\/p.pc=11)
def gK(p:Sp):Prop:=p.a=0/\(p.pc=5\/p.pc=9\/p.pc=10\/p.pc=12)
def iw(p t:Sp):Prop:=
 (p.pc=0/\t.pc=0)\/(p.a=1/\(p.pc=1\/p.pc=2\/p.pc=10\/p.pc=11)/\t.pc=0)\/
  (p.a=0/\p.pc=7/\0<t.pc/\t.pc<10)\/(p.a=0/\(p.pc=5\/p.pc=6\/p.pc=8\/p.pc=9\/p.pc=10\/p.pc=12)/\t.pc=10)\/(p.a=0/\p.pc=13/\10<t.pc)
def gY(c:CoC)(n:Nat)(U:List Sp)(a:Nat):Nat:=jp n (λj=>decide (c.node j=a)&&fE (sv U j))
def zZ(c:CoC)(n N:Nat)(d:Dr)(W:List Int)(U:List Sp):Prop:=
 (d.busy=true/\d.once=true/\d.at_<N/\d.lim=N)/\(d.second=true->d.o<=ldW W (gaW d.at_))/\∀j,j<n->dG (sv U j)->d.at_<=c.node j
structure RsI(c:CoC)(n N:Nat)(ml:Nat->Nat)(x:Nu):Prop where
 m:CoM c n N ml x.st
 lU:x.U.length=n
 k:∀i,i<n->iw (sv x.U i) (sv x.st.T i)
 g:∀a,a<N->ldW x.st.s.W (gaA a)=ldW x.st.s.W (gaW a)+(gY c n x.U a:Int)
 fl:∀i,i<n->gK (sv x.U i)->ldW x.st.s.W (nuFl N)≠0
 dr:∀i,i<n->(sv x.U i).a=0->(sv x.U i).pc=9->zZ c n N x.d x.st.s.W x.U
 hd:∀i,i<n->(sv x.U i).a=0->(sv x.U i).pc=10->∀j,j<n->¬dG (sv x.U j)
section
variable{c:CoC}{x x':Nu}
def RsI.safe(h:RsI c n N ml x)(y:cO c n N ml){i:Nat}(hi:i<n)(h1:(sv x.U i).pc=10)(H:(sv x.U i).a=0)(hj:j<n)(I:(sv x.U j).pc=10):j=i/\(sv x.U j).a=0:=by
 have ki:=h.k i hi;have V:=h.k j hj;by_cases O:(sv x.U j).a=1;.exact absurd ⟨O,.inl I⟩ (h.hd i hi H h1 j hj)
 .have t1:(sv x.st.T i).pc=10:=by unfold iw at ki;omega
  have t2:(sv x.st.T j).pc=10/\(sv x.U j).a=0:=by unfold iw at V;omega
  exact abN
def RsI.one(h:RsI c n N ml x)(y:cO c n N ml){i:Nat}(hi:i<n)(H:j<n)(h1:(sv x.st.T i).pc=10)(I:(sv x.st.T j).pc=10):i=j:=h.m.one y hi H ahy ahy
def JI{p t:Sp}(h:iw p t)(hw:gK p):t.pc=10:=by unfold iw at h;unfold gK at hw;omega
def mz{U:List Sp}{i:Nat}(h:i<U.length)(hi:i<n)(p:Sp)(a:Nat):gY c n (U.set i p) a+(if c.node i=a/\fE (sv U i)=true then 1 else 0)=gY c n U a+(if c.node i=a/\fE p=true then 1 else 0):=by unfold gY;have:=jJ (P:=λj=>decide (c.node j=a)&&fE (sv U j)) (Q:=λj=>decide (c.node j=a)&&fE (sv (U.set i p) j)) (i:=i) (λj H=>by rw[svS h,if_neg H]) n hi;simp only[Bool.and_eq_true,decide_eq_true_eq]at this;rw[svS h,if_pos rfl]at this;exact this
def RsI.upd(h:RsI c n N ml x){i:Nat}(hi:i<n){st':Co}{d':Dr}(hm:CoM c n N ml st')(hT:∀j,j≠i->sv st'.T j=sv x.st.T j)(hk:iw p' (sv st'.T i))(hg:∀a,a<N->ldW st'.s.W (gaA a)=ldW st'.s.W (gaW a)+(gY c n (x.U.set i p') a:Int))(Na:∀j,j<n->j≠i->gK (sv x.U j)->ldW st'.s.W (nuFl N)≠0)(Ur:gK p'->ldW st'.s.W (nuFl N)≠0)(hH:∀a,a<N->ldW x.st.s.W (gaW a)<=ldW st'.s.W (gaW a))(MC:dG p'->dG (sv x.U i)\/∀j,j<n->j≠i->¬gK (sv x.U j))(hd:∀j,j<n->j≠i->(sv x.U j).a=0->(sv x.U j).pc=9->d'=x.d)(od:p'.a=0->p'.pc=9->zZ c n N d' st'.s.W (x.U.set i p'))(oh:p'.a=0->p'.pc=10->∀j,j<n->j≠i->¬dG (sv x.U j)):RsI c n N ml ⟨st',d',x.U.set i p'⟩:=by
  refine akk ?_;intro hl;have hs:=svS hl p';refine⟨hm,by rw[List.length_set];exact h.lU,λj O=>?_,hg,λj O hw=>?_,λj O h0 h9=>?_,λj O h0 h10=>?_⟩
  . show iw (sv (x.U.set i p') j) (sv st'.T j);rw[hs];split;. rename_i e;rw[e];exact hk
    . rename_i e;rw[hT j e];exact h.k j O
  . have Mg:gK (sv (x.U.set i p') j):=hw;rw[hs]at Mg;split at Mg;. exact Ur Mg
    . rename_i e;exact Na j O e Mg
  . have H:(sv (x.U.set i p') j).a=0:=h0;have I:(sv (x.U.set i p') j).pc=9:=h9;rw[hs]at H I;by_cases e:j=i;. rw[if_pos e]at H I;exact od H I
    . rw[if_neg e]at H I;obtain⟨q1,q2,q3⟩:=h.dr j O H I;show zZ c n N d' st'.s.W (x.U.set i p');rw[hd j O e H I];refine⟨q1,λhq=>Int.le_trans (q2 hq) (hH _ q1.2.2.1),λk hk V=>?_⟩;rw[hs]at V;split at V
      . rename_i e2;rcases MC V with h1|h1
        . rw[e2];exact q3 i hi h1
        . exact absurd ⟨H,.inr (.inl I)⟩ (h1 j O e)
      . exact q3 k hk V
  . have H:(sv (x.U.set i p') j).a=0:=h0;have I:(sv (x.U.set i p') j).pc=10:=h10;rw[hs]at H I;intro k hk V;have Y:dG (sv (x.U.set i p') k):=V;rw[hs]at Y;by_cases e:j=i
    . rw[if_pos e]at H I;split at Y;. unfold dG at Y;omega
      . rename_i e2;exact oh H I k hk e2 Y
    . rw[if_neg e]at H I;split at Y
      . rcases MC Y with h1|h1
        . exact h.hd j O H I i hi h1
        . exact h1 j O e ⟨H,.inr (.inr (.inl I))⟩
      . exact h.hd j O H I k hk Y
def rz(h:RsI c n N ml x)(y:cO c n N ml)(l:NuL c N x.st.s.W){z:Int}(hz:1<=z/\z<=nuFl N)(v:Int)(e:s'.W=stW x.st.s.W z v):(∀q,ldW s'.W q=if q=z then v else ldW x.st.s.W q)/\CoM c n N ml (onA x.st s'):=by exact abO
def nM(h:RsI c n N ml x)(y:cO c n N ml)(e:s'.W=x.st.s.W):CoM c n N ml (onA x.st s'):=
 h.m.low y (by rw[e]) (λq _=>by rw[e]) (h.m.v.ars s')
def Dy(h:RsI c n N ml x){i:Nat}(hi:i<n)(I:fE p'=fE (sv x.U i))(a:Nat):gY c n (x.U.set i p') a=gY c n x.U a:=by have:=mz (c:=c) (n:=n) (show i<x.U.length by rw[h.lU];exact hi) hi p' a;rw[I]at this;omega
def dK(h:RsI c n N ml x){i:Nat}(hi:i<n)(I:fE p'=fE (sv x.U i))(hw:∀q,q<nuFl N->ldW W' q=ldW x.st.s.W q):∀a,a<N->ldW W' (gaA a)=ldW W' (gaW a)+(gY c n (x.U.set i p') a:Int):=λa H=>by
 rw[hw _ (eU H).2,hw _ (bK H).2,Dy h hi I a];exact h.g a H
def Hz(h:RsI c n N ml x)(hn:∀j,j<n->c.node j<N){i:Nat}(hi:i<n)(h0:fE (sv x.U i)=false)(h1:fE p'=true)(hw:∀q,ldW W' q=if q=gaA (c.node i)then ldW x.st.s.W (gaA (c.node i))+1 else ldW x.st.s.W q):∀a,a<N->ldW W' (gaA a)=ldW W' (gaW a)+(gY c n (x.U.set i p') a:Int):=λa ha=>by
 have h2:=mz (c:=c) (n:=n) (show i<x.U.length by rw[h.lU];exact hi) hi p' a
 exact abP
def F1(h:RsI c n N ml x)(hn:∀j,j<n->c.node j<N){i:Nat}(hi:i<n)(h0:fE (sv x.U i)=true)(h1:fE p'=false)(hw:∀q,ldW W' q=if q=gaW (c.node i)then ldW x.st.s.W (gaW (c.node i))+1 else ldW x.st.s.W q):∀a,a<N->ldW W' (gaA a)=ldW W' (gaW a)+(gY c n (x.U.set i p') a:Int):=λa ha=>by
 have h2:=mz (c:=c) (n:=n) (show i<x.U.length by rw[h.lU];exact hi) hi p' a
 exact abQ
end
end
section
open Go.RowKit
def cl(ty:TypeId)(B BC:Nat->Prop)(w:World)(a g:Nat)(X:SmX)(c:CoC)(P T:List Int)(r:Co×Dr×Int)(U:List Sp)(e:Ending)(w':World):Prop:=
 e= returned (J r.2.2)/\aw ty B BC w' a g X c P T r.1 r.2.1 U/\aa (SmS a g X) w w'
section
variable{ty:TypeId}
variable{g:Nat}{X:SmX}{c:CoC}{st st':Co}{d d':Dr}{U:List Sp}{s':Ar}
def aw.ltsA(h:aw ty B BC w a g X c P T st d U):∀r∈SmS a g X,r<w.heap.size:=by exact ab8
def aw.nodeA(h:aw ty B BC w a g X c P T st d U)(hn:n<T.length):(c.node n)<(ac P).length/\(ao P T T.length)[n]? =some ((c.node n:Nat):Int):=by exact ab9
def aw.drw(h:aw ty B BC w a g X c P T st d U):aw ty B BC w.drew a g X c P T st d U:=h.below (Below.refl _ _).drew
end
section
variable{g:Nat}{X:SmX}{c:CoC}{st st':Co}{d d':Dr}{U:List Sp}{s':Ar}
def CE(h:aw 335 B BC w a g X c P T st d U)(hnd:nd<(ac P).length)(Y:st.s.ops+1<=1000000000000):E 392 #[↑X.l,J 1,J nd] w (cl 335 B BC w a g X c P T (onA st (addA st.s (2*(nd:Int)+1) 1),d,2) U):=by have hnd:=qh hnd;have H:=qh h;clear h;go_enter func392,ntmps392;exact acb
def zq(h:aw 335 B BC w a g X c P T st d U)(hnd:nd<(ac P).length)(Y:st.s.ops+1<=1000000000000):E 392 #[↑X.l,J 11,J nd] w (cl 335 B BC w a g X c P T (onA st (addA st.s (2*(nd:Int)+1+1) 1),d,0) U):=by have hnd:=qh hnd;have H:=qh h;clear h;go_enter func392,ntmps392;exact acc
def CG(h:aw 335 B BC w a g X c P T st d U)(nd:Nat)(Y:st.s.ops+1<=1000000000000):E 392 #[↑X.l,J 2,J nd] w (cl 335 B BC w a g X c P T (onA st (af st.s (nuFl (ac P).length)),d,if ldW st.s.W (nuFl (ac P).length)=0 then 10 else 2) U):=by
  have H:=qh h;clear h;obtain⟨q,hq⟩:=LE (ldW st.s.W (nuFl (ac P).length));rw[<-hq];have HQ:=qh hq;clear hq;have hr:=qh (aE (H.o.drw).gd.ar (nuFl (ac P).length) Y);rw[<-HQ.o]at hr;obtain⟨v,O⟩:∃v:Int,v=if q=0 then 10 else 2:=⟨_,rfl⟩
  rw[<-O];have HV:=qh O;clear O;cases hz:(q==0)
  all_goals
    go_enter func392,ntmps392;have V:=qh H.o.drw;have T0:=qh (aa.refl (SmS a g X) w);go_wp2_with fail;first
    | (go_region_held3 (λW=>W.cell? X.l=some ↑a/\Z W X.l 4 (J (2*((ac P).length:Int)+1)))
        (first|exact⟨V.o.cs.1,V.o.cs.2.2.2.2.1⟩|exact⟨I.o.cs.1,I.o.cs.2.2.2.2.1⟩)
        (first
          | (go_at_call 173;go_loud (refine Pi hr.o λw1 a3=>?_);have I:=qh (V.o.arT a3.o.2 a3.o.1);have T1:=qh (T0.o.drew.trans (ft a3.o.2)))))
    | fail "held"
  all_goals
    first
    | (go_wp2
       go_ret
       rw[HV.o,if_pos ahZ]
       exact⟨rfl,I.o,T1.o⟩)
    | (go_wp2
       go_ret
       rw[HV.o,if_neg ahZ]
       exact⟨rfl,I.o,T1.o⟩)
def B9(h:aw 335 B BC w a g X c P T st d U)(hN:1<=(ac P).length)(Y:st.s.ops+1<=1000000000000):E 394 #[↑X.l,J 5] w (cl 335 B BC w a g X c P T (onA st (ae st.s (nuFl (ac P).length) 0),dV d (ac P).length false,6) U):=by
 have H:=qh h;clear h;go_enter func394,ntmps394;have V:=H;have T0:=qh (aa.refl (SmS a g X) w);have I:=qh V.o.drw;have hr:=qh (an (I.o).gd.ar (nuFl (ac P).length) (0) Y);go_wp2_with fail
 go_region_held3 (λW=>W.cell? X.l=some ↑a/\Z W X.l 4 (J (2*((ac P).length:Int)+1)))
  (first|exact⟨I.o.cs.1,I.o.cs.2.2.2.2.1⟩|exact⟨K1.o.cs.1,K1.o.cs.2.2.2.2.1⟩)
  (first
   |(go_at_call 177;go_loud (refine Pi hr.o λw1 O=>?_);have K1:=qh (I.o.arT O.o.2 O.o.1);have T1:=qh (T0.o.drew.trans (ft O.o.2))))
 exact acd
def Cb(h:aw 335 B BC w a g X c P T st d U)(hN:1<=(ac P).length)(Y:st.s.ops+1<=1000000000000):E 394 #[↑X.l,J 8] w (cl 335 B BC w a g X c P T (onA st (ae st.s (nuFl (ac P).length) 1),dV d (ac P).length true,9) U):=by
 have H:=qh h;clear h;go_enter func394,ntmps394;have K0:=H;have T0:=qh (aa.refl (SmS a g X) w);have I:=qh K0.o.drw;have hr:=qh (an (I.o).gd.ar (nuFl (ac P).length) (1) Y);go_wp2_with fail
 go_region_held3 (λW=>W.cell? X.l=some ↑a/\Z W X.l 4 (J (2*((ac P).length:Int)+1)))
  (first|exact⟨I.o.cs.1,I.o.cs.2.2.2.2.1⟩|exact⟨O.o.cs.1,O.o.cs.2.2.2.2.1⟩)
  (first
   |(go_at_call 177;go_loud (refine Pi hr.o λw1 V=>?_);have O:=qh (I.o.arT V.o.2 V.o.1);have T1:=qh (T0.o.drew.trans (ft V.o.2))))
 have Ma:=qh O.o.drw;have Lx:=qh (nC (Ma.o).gd hN true);exact ace
def Ca(h:aw 335 B BC w a g X c P T st d U)(I:d.busy=true->d.at_<(ac P).length)(Y:st.s.ops+1<=1000000000000):E 394 #[↑X.l,J 6] w (cl 335 B BC w a g X c P T (onA st (aj st.s d).1,(aj st.s d).2.1,if (aj st.s d).2.2=false then 6 else if (6:Int)=6 then 8 else if (aj st.s d).2.1.clear=true then 10 else 5) U):=by
 obtain⟨r,V⟩:=LE (aj st.s d);have O:=nD h.gd I Y;rw[<-V]at O ⊢;obtain⟨s1,d1,q⟩:=r;simp only at O ⊢;have HD:=qh O;have H:=qh h;clear h V I O;cases q;.exact acf
 .exact acf
def Cc(h:aw 335 B BC w a g X c P T st d U)(I:d.busy=true->d.at_<(ac P).length)(Y:st.s.ops+1<=1000000000000):E 394 #[↑X.l,J 9] w (cl 335 B BC w a g X c P T (onA st (aj st.s d).1,(aj st.s d).2.1,if (aj st.s d).2.2=false then 9 else if (9:Int)=6 then 8 else if (aj st.s d).2.1.clear=true then 10 else 5) U):=by
 obtain⟨r,V⟩:=LE (aj st.s d);have O:=nD h.gd I Y;rw[<-V]at O ⊢;obtain⟨s1,d1,q⟩:=r;simp only at O ⊢;have HD:=qh O;have H:=qh h;clear h V I O;cases q;.exact acf
 .cases hc:d1.clear;all_goals go_enter func394,ntmps394;have d3:=H.o.cs.2.2.2.1;go_wp2_with fail;refine Pi HD.o λw1 k4=>?_;have K1:=qh (H.o.gdT k4.o.2 k4.o.1);have T1:=qh (jx (X:=X) k4.o.2);have d4:=K1.o.cs.2.2.2.1;have Vi:=qh (DM K1.o.gd);rw[hc]at Vi;go_wp2_with fail;refine LT Vi.o ?_;go_wp2;go_ret;unfold cl;simp only[hc];exact⟨rfl,K1.o,T1.o⟩
def zS(h:aw 335 B BC w a g X c P T st d U)(n:Nat)(hn:n<T.length)(C:dh BB X.x c st)(Y:st.s.ops+1<=1000000000000):E 393 #[↑X.l,J n,J 7] w (cl 335 B BC w a g X c P T (ak c st n,d,if bB (sv st.T n) (sv (ak c st n).T n)then 8 else 7) U):=by exact acg
def wX(h:aw 335 B BC w a g X c P T st d U)(n:Nat)(hn:n<T.length)(C:dh BB X.x c st)(Y:st.s.ops+1<=1000000000000):E 393 #[↑X.l,J n,J 13] w (cl 335 B BC w a g X c P T (ak c st n,d,if bB (sv st.T n) (sv (ak c st n).T n)then 0 else 13) U):=by exact acg
def wV(h:aw 335 B BC w a g X c P T st d U)(n:Nat)(hn:n<T.length)(Y:st.s.ops+1<=1000000000000):E 393 #[↑X.l,J n,J 12] w (cl 335 B BC w a g X c P T (aA (onA st (ae st.s (nuFl (ac P).length) 0)) n,d,13) U):=by
 have Kz:n<X.x.n:=by rw[h.nT.1];exact hn
 have H:=qh h;clear h;go_enter func393,ntmps393;have V:=H;have T0:=qh (aa.refl (SmS a g X) w);have I:=qh V.o.drw;have hr:=qh (an (I.o).gd.ar (nuFl (ac P).length) (0) Y);go_wp2_with fail
 go_region_held3 (λW=>W.cell? X.l=some ↑a/\Z W X.l 4 (J (2*((ac P).length:Int)+1)))
  (first|exact⟨I.o.cs.1,I.o.cs.2.2.2.2.1⟩|exact⟨K1.o.cs.1,K1.o.cs.2.2.2.2.1⟩)
  (first
   |(go_at_call 177;go_loud (refine Pi hr.o λw1 O=>?_);have K1:=qh (I.o.arT O.o.2 O.o.1);have T1:=qh (T0.o.drew.trans (ft O.o.2))))
 exact ach
def zQ(h:aw 335 B BC w a g X c P T st d U)(hN:1<=(ac P).length)(n:Nat)(Y:st.s.ops+1<=1000000000000):E 393 #[↑X.l,J n,J 5] w (cl 335 B BC w a g X c P T (onA st (ae st.s (nuFl (ac P).length) 0),dV d (ac P).length false,6) U):=by have Lp:=B9 h hN Y;obtain⟨r,V⟩:∃r:Co×Dr×Int,r=(onA st (ae st.s (nuFl (ac P).length) 0),dV d (ac P).length false,6):=⟨_,rfl⟩;exact aci
def zT(h:aw 335 B BC w a g X c P T st d U)(hN:1<=(ac P).length)(n:Nat)(Y:st.s.ops+1<=1000000000000):E 393 #[↑X.l,J n,J 8] w (cl 335 B BC w a g X c P T (onA st (ae st.s (nuFl (ac P).length) 1),dV d (ac P).length true,9) U):=by have Lp:=Cb h hN Y;obtain⟨r,V⟩:∃r:Co×Dr×Int,r=(onA st (ae st.s (nuFl (ac P).length) 1),dV d (ac P).length true,9):=⟨_,rfl⟩;exact aci
def zR(h:aw 335 B BC w a g X c P T st d U)(I:d.busy=true->d.at_<(ac P).length)(n:Nat)(Y:st.s.ops+1<=1000000000000):E 393 #[↑X.l,J n,J 6] w (cl 335 B BC w a g X c P T (onA st (aj st.s d).1,(aj st.s d).2.1,if (aj st.s d).2.2=false then 6 else if (6:Int)=6 then 8 else if (aj st.s d).2.1.clear=true then 10 else 5) U):=by have Lp:=Ca h I Y;obtain⟨r,V⟩:∃r:Co×Dr×Int,r=(onA st (aj st.s d).1,(aj st.s d).2.1,if (aj st.s d).2.2=false then 6 else if (6:Int)=6 then 8 else if (aj st.s d).2.1.clear=true then 10 else 5):=⟨_,rfl⟩;exact aci
def zU(h:aw 335 B BC w a g X c P T st d U)(I:d.busy=true->d.at_<(ac P).length)(n:Nat)(Y:st.s.ops+1<=1000000000000):E 393 #[↑X.l,J n,J 9] w (cl 335 B BC w a g X c P T (onA st (aj st.s d).1,(aj st.s d).2.1,if (aj st.s d).2.2=false then 9 else if (9:Int)=6 then 8 else if (aj st.s d).2.1.clear=true then 10 else 5) U):=by have Lp:=Cc h I Y;obtain⟨r,V⟩:∃r:Co×Dr×Int,r=(onA st (aj st.s d).1,(aj st.s d).2.1,if (aj st.s d).2.2=false then 9 else if (9:Int)=6 then 8 else if (aj st.s d).2.1.clear=true then 10 else 5):=⟨_,rfl⟩;exact aci
end
end
section
open Go.RowKit
section
variable{g:Nat}{X:SmX}{c:CoC}{st st':Co}{d d':Dr}{U:List Sp}{s':Ar}
def xX(h:aw 335 B BC w a g X c P T st d U)(n:Nat)(hn:n<T.length)(hc:(sv U n).pc=0\/(sv U n).pc=10):E 389 #[↑X.l,J n] w (av 335 B BC w a g X c P T U n (a7 c (ac P).length ⟨st,d,U⟩ n)):=by
 have KF:=aP;have I:=pF h n;have hp:=h.thr hn;have hg:getS U (n:Int)=sv U n:=by exact abU
 rw[hg]at I;have H:=qh h;refine aj3 ?_;intro t2 MW;have mT:a7 c (ac P).length ⟨st,d,U⟩ n=⟨st,d,U⟩:=by unfold a7;rw[if_pos hc]
 obtain⟨p,Y⟩:=LE (sv U n);rw[<-Y]at hc I;have V:=qh I;have HX:=qh mT;clear h hp Y mT hg I;obtain⟨pc,u,b,z⟩:=p;simp only at hc;unfold aC at V;rcases hc with rfl|rfl
 all_goals go_enter func389,ntmps389;go_wp2_with fail;refine Pi V.o λw1 O=>?_;go_wp2;go_ret;rw[HX.o];first|exact av.stay ((H.o.below O.o).below ((Below.refl _ _).alloc (Nat.le_refl _) _)) ((aa.of_below O.o).alloc _) rfl|exact av.put HP.o ((H.o.below O.o).below ((Below.refl _ _).alloc (Nat.le_refl _) _)) ((aa.of_below O.o).alloc _) rfl ahI
def mR(h:aw 335 B BC w a g X c P T st d U)(n:Nat)(hn:n<T.length)(pc b z:Int)(hU:sv U n=⟨pc,1,b,z⟩)(hc:pc≠0/\pc≠10)(hD:∀W,aw 335 B BC W a g X c P T st d U->E 392 #[↑X.l,J pc,J (c.node n:Nat)] W (cl 335 B BC W a g X c P T (fm c (ac P).length ⟨st,d,U⟩ n ⟨pc,1,b,z⟩) U)):E 389 #[↑X.l,J n] w (av 335 B BC w a g X c P T U n (a7 c (ac P).length ⟨st,d,U⟩ n)):=by
  have KF:=aP;have H':=pF h n;have hp:=h.thr hn;have hg:getS U (n:Int)=sv U n:=by exact abU
  rw[hg]at H';have H:=qh h;refine aj3 ?_;intro t2 MW;obtain⟨r,V⟩:=LE (fm c (ac P).length ⟨st,d,U⟩ n ⟨pc,1,b,z⟩);have mT:a7 c (ac P).length ⟨st,d,U⟩ n=⟨r.1,r.2.1,U.set n ⟨r.2.2,1,b,z⟩⟩:=by unfold a7;exact acj
  rw[<-V]at hD;rw[hU]at hp H';obtain⟨s1,d1,v⟩:=r;simp only at mT;have u0:(pc==0)=false:=by simpa using hc.1
  have u1:(pc==10)=false:=by simpa using hc.2
  obtain⟨ab,Kw⟩:=h.nodeA hn;obtain⟨nd,WV⟩:=LE (c.node n);rw[<-WV]at Kw ab hD;have PB:=qh Kw;have HX:=qh mT;have HS:=qh H';have HP:=qh hp;have HD:=qh hD;clear h hp mT hg H' hD V hU hc ab Kw WV;unfold aC at HS;cases v1:(v==10)<;>cases v2:(v==0)
  all_goals
    go_enter func389,ntmps389;go_wp2_with fail;refine ai9 ?_;intro w1 b1 K1 T1;go_upto_region 2 with fail;obtain⟨sb,Ls⟩:=LE w1.heap.size;obtain⟨O,KU⟩:=LE (w1.alloc (cells #[J pc,J 1,J b,J z] 113));rw[<-KU,<-Ls];have Y:=qh (show aw 335 B BC O a g X c P T st d U/\aa (SmS a g X) w O/\Blk O sb 113 #[J pc,J 1,J b,J z]/\sb∉SmS a g X from⟨by rw[KU];exact(K1.o).below ((Below.refl _ _).alloc (Nat.le_refl _) _),by rw[KU];exact T1.o.alloc _,by rw[KU,Ls];exact Blk.new _ _ _,λk=>by have:=K1.o.ltsA _ k;omega⟩);clear KU Ls K1 T1;have v0:O.cell? sb=some (J pc):=Y.o.2.2.1.cell 0;have va:Z O sb 1 (J 1):=Y.o.2.2.1.cell 1;have l1:Z O X.l 1 ↑X.b:=Y.o.1.cs.2.1;have Ma:=qh Y.o.1.drw;have Tt:=qh (jZ O.drew X.b P T n hn Ma.o.tb.f nd PB.o);have Yo:=qh (HD.o _ Ma.o);have HC:=qh (λW (st:Co) (d:Dr) (k:aw 335 B BC W a g X c P T st d U) (I:Blk W sb 113 #[J pc,J 1,J b,J z])=>And.intro (show W.cell? sb=some (J pc)from I.cell 0) k.cs.2.1);go_wp2_with fail
    go_region_held3 (λW=>W.cell? sb=some (J pc)/\Z W X.l 1 ↑X.b)
      (first|exact⟨v0,l1⟩|exact M3.o)
      (first
        | (go_at_call 100;go_loud (refine LT Tt.o ?_))
        | (go_at_call 392;go_loud (refine Pi Yo.o λw3 k3=>?_);have M3:=qh (HC.o _ _ _ k3.o.1 ((((aa.refl (SmS a g X) O).drew).trans k3.o.2).blk Y.o.2.2.1 Y.o.2.2.2));have K3:=qh k3.o.1;have T3:=qh (Y.o.2.1.drew.trans k3.o.2)))
  all_goals refine ajT ?_;intro e0 z0 d6;have K4:=qh (K3.o.put0 HP.o (p':=(⟨v,1,b,z⟩:Sp)) (u:= J v) rfl);go_wp2;go_ret;rw[HX.o];first|exact av.stay (K4.o) (T3.o.trans (ee _ _)) rfl|exact av.put HP.o (K4.o) (T3.o.trans (ee _ _)) rfl ahI
def fT(h:aw 335 B BC w a g X c P T st d U)(n:Nat)(hn:n<T.length)(pc b z:Int)(hU:sv U n=⟨pc,0,b,z⟩)(hc:pc≠0/\pc≠10)(hD:∀W,aw 335 B BC W a g X c P T st d U->E 393 #[↑X.l,J n,J pc] W (cl 335 B BC W a g X c P T (fm c (ac P).length ⟨st,d,U⟩ n ⟨pc,0,b,z⟩) U)):E 389 #[↑X.l,J n] w (av 335 B BC w a g X c P T U n (a7 c (ac P).length ⟨st,d,U⟩ n)):=by
  have KF:=aP;have H':=pF h n;have hp:=h.thr hn;have hg:getS U (n:Int)=sv U n:=by exact abU
  rw[hg]at H';have H:=qh h;refine aj3 ?_;intro t2 MW;obtain⟨r,V⟩:=LE (fm c (ac P).length ⟨st,d,U⟩ n ⟨pc,0,b,z⟩);have mT:a7 c (ac P).length ⟨st,d,U⟩ n=⟨r.1,r.2.1,U.set n ⟨r.2.2,0,b,z⟩⟩:=by unfold a7;exact acj
  rw[<-V]at hD;rw[hU]at hp H';obtain⟨s1,d1,v⟩:=r;simp only at mT;refine ajX ?_;intro u0 u1 HX HS HP HD;clear h hp mT hg H' hD V hU hc;unfold aC at HS;cases v1:(v==10)<;>cases v2:(v==0);all_goals go_enter func389,ntmps389;go_wp2_with fail;refine ai9 ?_;intro w1 b1 K1 T1;go_upto_region 2 with fail;obtain⟨sb,Ls⟩:=LE w1.heap.size;obtain⟨O,I⟩:=LE (w1.alloc (cells #[J pc,J 0,J b,J z] 113));rw[<-I,<-Ls];have Y:=qh (show aw 335 B BC O a g X c P T st d U/\aa (SmS a g X) w O/\Blk O sb 113 #[J pc,J 0,J b,J z]/\sb∉SmS a g X from⟨by rw[I];exact(K1.o).below ((Below.refl _ _).alloc (Nat.le_refl _) _),by rw[I];exact T1.o.alloc _,by rw[I,Ls];exact Blk.new _ _ _,λk=>by have:=K1.o.ltsA _ k;omega⟩);clear I Ls K1 T1;have v0:O.cell? sb=some (J pc):=Y.o.2.2.1.cell 0;have va:Z O sb 1 (J 0):=Y.o.2.2.1.cell 1;go_wp2_with fail;refine Pi (HD.o _ Y.o.1) λw3 k3=>?_;have K3:=qh k3.o.1;have T3:=qh (Y.o.2.1.trans k3.o.2)
  all_goals refine ajT ?_;intro e0 z0 d6;have K4:=qh (K3.o.put0 HP.o (p':=(⟨v,0,b,z⟩:Sp)) (u:= J v) rfl);go_wp2;go_ret;rw[HX.o];first|exact av.stay (K4.o) (T3.o.trans (ee _ _)) rfl|exact av.put HP.o (K4.o) (T3.o.trans (ee _ _)) rfl ahI
def ET(h:aw 335 B BC w a g X c P T st d U)(n:Nat)(H:n<T.length)(hc:iw (sv U n) (sv st.T n))(Y:st.s.ops+1<=1000000000000)(hN:1<=(ac P).length)(I:((sv U n).a=0->((sv U n).pc=9\/(sv U n).pc=6)->d.busy=true->d.at_<(ac P).length))(C:dh BB X.x c st):E 389 #[↑X.l,J n] w (av 335 B BC w a g X c P T U n (a7 c (ac P).length ⟨st,d,U⟩ n)):=by
  obtain⟨p,O⟩:=LE (sv U n)
  have KM:p.pc=0\/p.pc=10\/(p.a=1/\p.pc=1)\/(p.a=1/\p.pc=2)\/(p.a=1/\p.pc=11)\/(p.a=0/\p.pc=7)\/(p.a=0/\p.pc=5)\/(p.a=0/\p.pc=6)\/(p.a=0/\p.pc=8)\/(p.a=0/\p.pc=9)\/(p.a=0/\p.pc=12)\/(p.a=0/\p.pc=13):=by
    rw[<-O]at hc;unfold iw at hc;rcases hc with⟨q1,_⟩|⟨q1,q2,_⟩|⟨q1,q2,_⟩|⟨q1,q2,_⟩|⟨q1,q2,_⟩
    all_goals omega
  have V:=I;rw[<-O]at V;obtain⟨pc,u,b,z⟩:=p;have I':(sv U n).pc=pc:=by rw[<-O]
  simp only at KM V;have ab:=h.nodeA H;rcases KM with rfl|rfl|⟨rfl,rfl⟩|⟨rfl,rfl⟩|⟨rfl,rfl⟩|⟨rfl,rfl⟩|⟨rfl,rfl⟩|⟨rfl,rfl⟩|⟨rfl,rfl⟩|⟨rfl,rfl⟩|⟨rfl,rfl⟩|⟨rfl,rfl⟩
  . exact xX h n H (.inl I')
  . exact xX h n H (.inr I')
  . exact mR h n H _ b z O.symm ahA (λW k=>CE k ab.1 Y)
  . exact mR h n H _ b z O.symm ahA (λW k=>CG k (c.node n) Y)
  . refine mR h n H _ b z O.symm ahA (λW k=>?_);have k9:=zq k ab.1 Y;rw[show 2*((c.node n:Nat):Int)+1+1=gaW (c.node n)by unfold gaW;omega]at k9;exact k9
  . exact fT h n H _ b z O.symm ahA (λW k=>zS k n H C Y)
  . exact fT h n H _ b z O.symm ahA (λW k=>zQ k hN n Y)
  . exact fT h n H _ b z O.symm ahA (λW k=>zR k (V rfl (.inr rfl)) n Y)
  . exact fT h n H _ b z O.symm ahA (λW k=>zT k hN n Y)
  . exact fT h n H _ b z O.symm ahA (λW k=>zU k (V rfl (.inl rfl)) n Y)
  . exact fT h n H _ b z O.symm ahA (λW k=>wV k n H Y)
  . exact fT h n H _ b z O.symm ahA (λW k=>wX k n H C Y)
end
end
section
open Go.RowKit
section
variable{g:Nat}{X:SmX}{c:CoC}{st st':Co}{d d':Dr}{U:List Sp}{s':Ar}
def xP(h:aw 337 B BC w a g X c P T st d U)(Y:st.s.ops+1<=1000000000000):E 405 #[↑X.l] w λe w'=>e= returned (bool (ldW st.s.W (nuFl (ac P).length)==0))/\aw 337 B BC w' a g X c P T (onA st (af st.s (nuFl (ac P).length))) d U/\aa (SmS a g X) w w':=by
 have H:=qh h;clear h;obtain⟨q,V⟩:=LE (ldW st.s.W (nuFl (ac P).length));rw[<-V];have HQ:=qh V;clear V;have I:=qh H.o.drw;have hr:=qh (aE (I.o).gd.ar (nuFl (ac P).length) Y);rw[<-HQ.o]at hr;go_enter func405,ntmps405;go_wp2_with fail
 go_region_held3 (λW=>W.cell? X.l=some ↑a/\Z W X.l 4 (J (2*((ac P).length:Int)+1)))
  (first|exact⟨I.o.cs.1,I.o.cs.2.2.2.2.1⟩|exact⟨K1.o.cs.1,K1.o.cs.2.2.2.2.1⟩)
  (first
   |(go_at_call 173;go_loud (refine Pi hr.o λw1 O=>?_);have K1:=qh (I.o.arT O.o.2 O.o.1);have T1:=qh ((aa.refl (SmS a g X) w).drew.trans (ft O.o.2))))
 exact acl
def EI(h:aw 337 B BC w a g X c P T st d U)(n:Nat)(V:n<T.length)(hnd:nd<(ac P).length)(I:(ao P T T.length)[n]? =some ((nd:Nat):Int))(Y:st.s.ops+1<=1000000000000):E 404 #[↑X.l,J n,J 2] w (cl 337 B BC w a g X c P T (onA st (addA st.s (2*(nd:Int)+1) 1),d,3) U):=by have O:=qh (jZ w X.b P T n V h.tb.f _ I);have l1:=h.cs.2.1;have hnd:=qh hnd;have H:=qh h;clear h I;go_enter func404,ntmps404;go_wp2_with fail;refine LT O.o ?_;exact acb
def EK(h:aw 337 B BC w a g X c P T st d U)(n:Nat)(hn:n<T.length)(hnd:nd<(ac P).length)(Kw:(ao P T T.length)[n]? =some ((nd:Nat):Int))(Y:st.s.ops+1<=1000000000000):E 404 #[↑X.l,J n,J 4] w (cl 337 B BC w a g X c P T (onA st (addA st.s (2*(nd:Int)+1+1) 1),d,1) U):=by exact acm
def CD(h:aw 337 B BC w a g X c P T st d U)(n:Nat)(hn:n<T.length)(hnd:nd<(ac P).length)(Kw:(ao P T T.length)[n]? =some ((nd:Nat):Int))(Y:st.s.ops+1<=1000000000000):E 404 #[↑X.l,J n,J 11] w (cl 337 B BC w a g X c P T (onA st (addA st.s (2*(nd:Int)+1+1) 1),d,0) U):=by exact acm
def EH(h:aw 337 B BC w a g X c P T st d U)(n:Nat)(V:n<T.length)(I:nd<(ac P).length)(Kw:(ao P T T.length)[n]? =some ((nd:Nat):Int))(Y:st.s.ops+1<=1000000000000):E 404 #[↑X.l,J n,J 1] w (cl 337 B BC w a g X c P T (onA st (af st.s (nuFl (ac P).length)),d,if ldW st.s.W (nuFl (ac P).length)=0 then 2 else 1) U):=by
  have MD:=qh (jZ w X.b P T n V h.tb.f _ Kw);have l1:=h.cs.2.1;have I:=qh I;have OD:=xP h Y;obtain⟨q,hq⟩:=LE (ldW st.s.W (nuFl (ac P).length));rw[<-hq]at OD ⊢;obtain⟨v,O⟩:∃v:Int,v=if q=0 then 2 else 1:=⟨_,rfl⟩
  exact acn
def EJ(h:aw 337 B BC w a g X c P T st d U)(n:Nat)(V:n<T.length)(I:nd<(ac P).length)(Kw:(ao P T T.length)[n]? =some ((nd:Nat):Int))(Y:st.s.ops+1<=1000000000000):E 404 #[↑X.l,J n,J 3] w (cl 337 B BC w a g X c P T (onA st (af st.s (nuFl (ac P).length)),d,if ldW st.s.W (nuFl (ac P).length)=0 then 10 else 4) U):=by
  have MD:=qh (jZ w X.b P T n V h.tb.f _ Kw);have l1:=h.cs.2.1;have I:=qh I;have OD:=xP h Y;obtain⟨q,hq⟩:=LE (ldW st.s.W (nuFl (ac P).length));rw[<-hq]at OD ⊢;obtain⟨v,O⟩:∃v:Int,v=if q=0 then 10 else 4:=⟨_,rfl⟩
  exact acn
def Dc(h:aw 337 B BC w a g X c P T st d U)(n:Nat)(hn:n<T.length)(Y:st.s.ops+1<=1000000000000):E 403 #[↑X.l,J n,J 5] w (cl 337 B BC w a g X c P T (bG c (onA st (addA st.s (nuFl (ac P).length) 1)) n,d,7) U):=by
 have Kz:n<X.x.n:=by rw[h.nT.1];exact hn
 have H:=qh h;clear h;go_enter func403,ntmps403;have K0:=H;have T0:=qh (aa.refl (SmS a g X) w);have I:=qh K0.o.drw;have hr:=qh (iq (I.o).gd.ar (nuFl (ac P).length) (1) Y);obtain⟨va,V⟩:∃va:Int,va=(if inR st.s.W (nuFl (ac P).length)then IntKind.i64.wrap (ldW st.s.W (nuFl (ac P).length)+(1))else 0):=⟨_,rfl⟩;rw[<-V]at hr;clear V;go_wp2_with fail
 go_region_held3 (λW=>W.cell? X.l=some ↑a/\Z W X.l 4 (J (2*((ac P).length:Int)+1)))
  (first|exact⟨I.o.cs.1,I.o.cs.2.2.2.2.1⟩|exact⟨K1.o.cs.1,K1.o.cs.2.2.2.2.1⟩)
  (first
   |(go_at_call 298;go_loud (refine Pi hr.o λw1 O=>?_);have K1:=qh (I.o.arT O.o.2 O.o.1);have T1:=qh (T0.o.drew.trans (ft O.o.2))))
 have l5:=K1.o.cs.2.2.2.2.2.1;go_wp2_with fail;refine Pi (sB K1.o.co n Kz) λw2 k3=>?_;exact aco
def zO(h:aw 337 B BC w a g X c P T st d U)(n:Nat)(hn:n<T.length)(Y:st.s.ops+1<=1000000000000):E 403 #[↑X.l,J n,J 12] w (cl 337 B BC w a g X c P T (aA (onA st (addA st.s (nuFl (ac P).length) (-1))) n,d,13) U):=by
 have Kz:n<X.x.n:=by rw[h.nT.1];exact hn
 have H:=qh h;clear h;go_enter func403,ntmps403;have K0:=H;have T0:=qh (aa.refl (SmS a g X) w);have I:=qh K0.o.drw;have hr:=qh (iq (I.o).gd.ar (nuFl (ac P).length) (-1) Y);obtain⟨va,V⟩:∃va:Int,va=(if inR st.s.W (nuFl (ac P).length)then IntKind.i64.wrap (ldW st.s.W (nuFl (ac P).length)+(-1))else 0):=⟨_,rfl⟩;rw[<-V]at hr;clear V;go_wp2_with fail
 go_region_held3 (λW=>W.cell? X.l=some ↑a/\Z W X.l 4 (J (2*((ac P).length:Int)+1)))
  (first|exact⟨I.o.cs.1,I.o.cs.2.2.2.2.1⟩|exact⟨K1.o.cs.1,K1.o.cs.2.2.2.2.1⟩)
  (first
   |(go_at_call 298;go_loud (refine Pi hr.o λw1 O=>?_);have K1:=qh (I.o.arT O.o.2 O.o.1);have T1:=qh (T0.o.drew.trans (ft O.o.2))))
 exact ach
def zP(h:aw 337 B BC w a g X c P T st d U)(n:Nat)(hn:n<T.length)(C:dh BB X.x c st)(Y:st.s.ops+1<=1000000000000):E 403 #[↑X.l,J n,J 13] w (cl 337 B BC w a g X c P T (ak c st n,d,if bB (sv st.T n) (sv (ak c st n).T n)then 0 else 13) U):=by
 have Kz:n<X.x.n:=by rw[h.nT.1];exact hn
 have I:=mO h.co C n Kz;obtain⟨q,O⟩:=LE (bB (sv st.T n) (sv (ak c st n).T n));rw[<-O]at I ⊢;have V:=qh I;have l5:=h.cs.2.2.2.2.2.1;have H:=qh h;clear h O I;cases q;all_goals go_enter func403,ntmps403;go_wp2_with fail;refine Pi V.o λw1 k3=>?_;have K1:=qh (H.o.coT k3.o.2 k3.o.1);have T1:=qh (ii (X:=X) k3.o.2);go_wp2;go_ret;exact⟨rfl,K1.o,T1.o⟩
def Dd(h:aw 337 B BC w a g X c P T st d U)(n:Nat)(hn:n<T.length)(C:dh BB X.x c st)(hN:1<=(ac P).length)(Y:st.s.ops+1<=1000000000000):E 403 #[↑X.l,J n,J 7] w (cl 337 B BC w a g X c P T (ak c st n,if bB (sv st.T n) (sv (ak c st n).T n)then dV d (ac P).length false else d,if bB (sv st.T n) (sv (ak c st n).T n)then 9 else 7) U):=by
 have Kz:n<X.x.n:=by rw[h.nT.1];exact hn
 have I:=mO h.co C n Kz;obtain⟨q,V⟩:=LE (bB (sv st.T n) (sv (ak c st n).T n));rw[<-V]at I ⊢;have O:=qh I;have l5:=h.cs.2.2.2.2.2.1;have H:=qh h;clear h V I;cases q;.go_enter func403,ntmps403;go_wp2_with fail;refine Pi O.o λw1 k3=>?_;have K1:=qh (H.o.coT k3.o.2 k3.o.1);have T1:=qh (ii (X:=X) k3.o.2);exact acl
 .go_enter func403,ntmps403;go_wp2_with fail;refine Pi O.o λw1 k3=>?_;have K1:=qh (H.o.coT k3.o.2 k3.o.1);have T1:=qh (ii (X:=X) k3.o.2);exact acd
def De(h:aw 337 B BC w a g X c P T st d U)(I:d.busy=true->d.at_<(ac P).length)(n:Nat)(Y:st.s.ops+1<=1000000000000):E 403 #[↑X.l,J n,J 9] w (cl 337 B BC w a g X c P T (onA st (aj st.s d).1,(aj st.s d).2.1,if (aj st.s d).2.2=true then 10 else 9) U):=by obtain⟨r,V⟩:=LE (aj st.s d);have O:=nD h.gd I Y;rw[<-V]at O ⊢;obtain⟨s1,d1,q⟩:=r;simp only at O ⊢;have HD:=qh O;have H:=qh h;clear h V I O;cases q;all_goals go_enter func403,ntmps403;have d3:=H.o.cs.2.2.2.1;go_wp2_with fail;refine Pi HD.o λw1 k4=>?_;have K1:=qh (H.o.gdT k4.o.2 k4.o.1);have T1:=qh (jx (X:=X) k4.o.2);go_wp2;go_ret;exact⟨rfl,K1.o,T1.o⟩
end
end
section
open Go.RowKit
section
variable{g:Nat}{X:SmX}{c:CoC}{st st':Co}{d d':Dr}{U:List Sp}{s':Ar}
def xY(h:aw 337 B BC w a g X c P T st d U)(n:Nat)(hn:n<T.length)(hc:(sv U n).pc=0\/(sv U n).pc=10):E 400 #[↑X.l,J n] w (av 337 B BC w a g X c P T U n (bo c (ac P).length ⟨st,d,U⟩ n)):=by
 have KF:=aP;have I:=pG h n;have hp:=h.thr hn;have hg:getS U (n:Int)=sv U n:=by exact abU
 rw[hg]at I;have H:=qh h;refine aj3 ?_;intro t2 MW;have mT:bo c (ac P).length ⟨st,d,U⟩ n=⟨st,d,U⟩:=by unfold bo;rw[if_pos hc]
 obtain⟨p,Y⟩:=LE (sv U n);rw[<-Y]at hc I;have V:=qh I;have HX:=qh mT;clear h hp Y mT hg I;obtain⟨pc,u,b,z⟩:=p;simp only at hc;unfold aC at V;rcases hc with rfl|rfl
 all_goals go_enter func400,ntmps400;go_wp2_with fail;refine Pi V.o λw1 O=>?_;go_wp2;go_ret;rw[HX.o];first|exact av.stay ((H.o.below O.o).below ((Below.refl _ _).alloc (Nat.le_refl _) _)) ((aa.of_below O.o).alloc _) rfl|exact av.put HP.o ((H.o.below O.o).below ((Below.refl _ _).alloc (Nat.le_refl _) _)) ((aa.of_below O.o).alloc _) rfl ahI
def je(h:aw 337 B BC w a g X c P T st d U)(n:Nat)(hn:n<T.length)(pc b z:Int)(hU:sv U n=⟨pc,1,b,z⟩)(hc:pc≠0/\pc≠10)(hD:∀W,aw 337 B BC W a g X c P T st d U->E 404 #[↑X.l,J n,J pc] W (cl 337 B BC W a g X c P T (iH c (ac P).length ⟨st,d,U⟩ n ⟨pc,1,b,z⟩) U)):E 400 #[↑X.l,J n] w (av 337 B BC w a g X c P T U n (bo c (ac P).length ⟨st,d,U⟩ n)):=by
  have KF:=aP;have H':=pG h n;have hp:=h.thr hn;have hg:getS U (n:Int)=sv U n:=by exact abU
  rw[hg]at H';have H:=qh h;refine aj3 ?_;intro t2 MW;obtain⟨r,V⟩:=LE (iH c (ac P).length ⟨st,d,U⟩ n ⟨pc,1,b,z⟩);have mT:bo c (ac P).length ⟨st,d,U⟩ n=⟨r.1,r.2.1,U.set n ⟨r.2.2,1,b,z⟩⟩:=by unfold bo;exact acj
  rw[<-V]at hD;rw[hU]at hp H';obtain⟨s1,d1,v⟩:=r;simp only at mT;refine ajX ?_;intro u0 u1 HX HS HP HD;clear h hp mT hg H' hD V hU hc;unfold aC at HS;cases v1:(v==10)<;>cases v2:(v==0);all_goals go_enter func400,ntmps400;go_wp2_with fail;refine ai9 ?_;intro w1 b1 K1 T1;go_upto_region 2 with fail;obtain⟨sb,Ls⟩:=LE w1.heap.size;obtain⟨O,I⟩:=LE (w1.alloc (cells #[J pc,J 1,J b,J z] 113));rw[<-I,<-Ls];have Y:=qh (show aw 337 B BC O a g X c P T st d U/\aa (SmS a g X) w O/\Blk O sb 113 #[J pc,J 1,J b,J z]/\sb∉SmS a g X from⟨by rw[I];exact(K1.o).below ((Below.refl _ _).alloc (Nat.le_refl _) _),by rw[I];exact T1.o.alloc _,by rw[I,Ls];exact Blk.new _ _ _,λk=>by have:=K1.o.ltsA _ k;omega⟩);clear I Ls K1 T1;have v0:O.cell? sb=some (J pc):=Y.o.2.2.1.cell 0;have va:Z O sb 1 (J 1):=Y.o.2.2.1.cell 1;go_wp2_with fail;refine Pi (HD.o _ Y.o.1) λw3 k3=>?_;have K3:=qh k3.o.1;have T3:=qh (Y.o.2.1.trans k3.o.2)
  all_goals refine ajT ?_;intro e0 z0 d6;have K4:=qh (K3.o.put0 HP.o (p':=(⟨v,1,b,z⟩:Sp)) (u:= J v) rfl);go_wp2;go_ret;rw[HX.o];first|exact av.stay (K4.o) (T3.o.trans (ee _ _)) rfl|exact av.put HP.o (K4.o) (T3.o.trans (ee _ _)) rfl ahI
def jd(h:aw 337 B BC w a g X c P T st d U)(n:Nat)(hn:n<T.length)(pc b z:Int)(hU:sv U n=⟨pc,0,b,z⟩)(hc:pc≠0/\pc≠10)(hD:∀W,aw 337 B BC W a g X c P T st d U->E 403 #[↑X.l,J n,J pc] W (cl 337 B BC W a g X c P T (iH c (ac P).length ⟨st,d,U⟩ n ⟨pc,0,b,z⟩) U)):E 400 #[↑X.l,J n] w (av 337 B BC w a g X c P T U n (bo c (ac P).length ⟨st,d,U⟩ n)):=by
  have KF:=aP;have H':=pG h n;have hp:=h.thr hn;have hg:getS U (n:Int)=sv U n:=by exact abU
  rw[hg]at H';have H:=qh h;refine aj3 ?_;intro t2 MW;obtain⟨r,V⟩:=LE (iH c (ac P).length ⟨st,d,U⟩ n ⟨pc,0,b,z⟩);have mT:bo c (ac P).length ⟨st,d,U⟩ n=⟨r.1,r.2.1,U.set n ⟨r.2.2,0,b,z⟩⟩:=by unfold bo;exact acj
  rw[<-V]at hD;rw[hU]at hp H';obtain⟨s1,d1,v⟩:=r;simp only at mT;refine ajX ?_;intro u0 u1 HX HS HP HD;clear h hp mT hg H' hD V hU hc;unfold aC at HS;cases v1:(v==10)<;>cases v2:(v==0);all_goals go_enter func400,ntmps400;go_wp2_with fail;refine ai9 ?_;intro w1 b1 K1 T1;go_upto_region 2 with fail;obtain⟨sb,Ls⟩:=LE w1.heap.size;obtain⟨O,I⟩:=LE (w1.alloc (cells #[J pc,J 0,J b,J z] 113));rw[<-I,<-Ls];have Y:=qh (show aw 337 B BC O a g X c P T st d U/\aa (SmS a g X) w O/\Blk O sb 113 #[J pc,J 0,J b,J z]/\sb∉SmS a g X from⟨by rw[I];exact(K1.o).below ((Below.refl _ _).alloc (Nat.le_refl _) _),by rw[I];exact T1.o.alloc _,by rw[I,Ls];exact Blk.new _ _ _,λk=>by have:=K1.o.ltsA _ k;omega⟩);clear I Ls K1 T1;have v0:O.cell? sb=some (J pc):=Y.o.2.2.1.cell 0;have va:Z O sb 1 (J 0):=Y.o.2.2.1.cell 1;go_wp2_with fail;refine Pi (HD.o _ Y.o.1) λw3 k3=>?_;have K3:=qh k3.o.1;have T3:=qh (Y.o.2.1.trans k3.o.2)
  all_goals refine ajT ?_;intro e0 z0 d6;have K4:=qh (K3.o.put0 HP.o (p':=(⟨v,0,b,z⟩:Sp)) (u:= J v) rfl);go_wp2;go_ret;rw[HX.o];first|exact av.stay (K4.o) (T3.o.trans (ee _ _)) rfl|exact av.put HP.o (K4.o) (T3.o.trans (ee _ _)) rfl ahI
def EU(h:aw 337 B BC w a g X c P T st d U)(n:Nat)(H:n<T.length)(hc:ia (sv U n) (sv st.T n))(Y:st.s.ops+1<=1000000000000)(hN:1<=(ac P).length)(I:((sv U n).a=0->(sv U n).pc=9->d.busy=true->d.at_<(ac P).length))(C:dh BB X.x c st):E 400 #[↑X.l,J n] w (av 337 B BC w a g X c P T U n (bo c (ac P).length ⟨st,d,U⟩ n)):=by
  obtain⟨p,V⟩:=LE (sv U n)
  have KM:p.pc=0\/p.pc=10\/(p.a=1/\p.pc=1)\/(p.a=1/\p.pc=2)\/(p.a=1/\p.pc=3)\/(p.a=1/\p.pc=4)\/(p.a=1/\p.pc=11)\/(p.a=0/\p.pc=5)\/(p.a=0/\p.pc=7)\/(p.a=0/\p.pc=9)\/(p.a=0/\p.pc=12)\/(p.a=0/\p.pc=13):=by
    rw[<-V]at hc;unfold ia at hc;rcases hc with⟨q1,_⟩|⟨q1,q2,_⟩|⟨q1,q2,_⟩|⟨q1,q2,_⟩|⟨q1,q2,_⟩|⟨q1,q2,_⟩
    all_goals omega
  have ab:=I;rw[<-V]at ab;obtain⟨pc,u,b,z⟩:=p;have I':(sv U n).pc=pc:=by rw[<-V]
  simp only at KM ab;have O:=h.nodeA H;rcases KM with rfl|rfl|⟨rfl,rfl⟩|⟨rfl,rfl⟩|⟨rfl,rfl⟩|⟨rfl,rfl⟩|⟨rfl,rfl⟩|⟨rfl,rfl⟩|⟨rfl,rfl⟩|⟨rfl,rfl⟩|⟨rfl,rfl⟩|⟨rfl,rfl⟩
  . exact xY h n H (.inl I')
  . exact xY h n H (.inr I')
  . exact je h n H _ b z V.symm ahA (λW k=>EH k n H O.1 O.2 Y)
  . exact je h n H _ b z V.symm ahA (λW k=>EI k n H O.1 O.2 Y)
  . exact je h n H _ b z V.symm ahA (λW k=>EJ k n H O.1 O.2 Y)
  . refine je h n H _ b z V.symm ahA (λW k=>?_);have k9:=EK k n H O.1 O.2 Y;rw[show 2*((c.node n:Nat):Int)+1+1=gaW (c.node n)by unfold gaW;omega]at k9;exact k9
  . refine je h n H _ b z V.symm ahA (λW k=>?_);have k9:=CD k n H O.1 O.2 Y;rw[show 2*((c.node n:Nat):Int)+1+1=gaW (c.node n)by unfold gaW;omega]at k9;exact k9
  . exact jd h n H _ b z V.symm ahA (λW k=>Dc k n H Y)
  . exact jd h n H _ b z V.symm ahA (λW k=>Dd k n H C hN Y)
  . exact jd h n H _ b z V.symm ahA (λW k=>De k (ab rfl rfl) n Y)
  . exact jd h n H _ b z V.symm ahA (λW k=>zO k n H Y)
  . exact jd h n H _ b z V.symm ahA (λW k=>zP k n H C Y)
end
end
section
open Go
section
variable{c:CoC}{x:Nu}{B:Int}
def lY{p:Sp}(h:¬(p.a=1/\(p.pc=2\/p.pc=10\/p.pc=11))):fE p=false:=decide_eq_false h
def EF{p:Sp}(h:p.a=1/\(p.pc=2\/p.pc=10\/p.pc=11)):fE p=true:=decide_eq_true h
def RsI.ask(h:RsI c n N ml x)(y:cO c n N ml){i:Nat}(hi:i<n)(r:Bool):RsI c n N ml (cI c x i r):=by
 unfold cI;split
 .rename_i h0;have Y:=h.k i hi;have O:(sv x.st.T i).pc=0:=by unfold iw at Y;omega
  have I:fE (sv x.U i)=false:=lY ahy;split;.exact h.upd (p':=⟨1,1,0,0⟩) hi h.m (λ_ _=>rfl) (.inr (.inl ⟨rfl,.inl rfl,O⟩)) (dK h hi (by rw[I];rfl) (λ_ _=>rfl)) (λj H _ hw=>h.fl j H hw) (λhw=>by unfold gK at hw;simp at hw) (λ_ _=>Int.le_refl _) (λV=>by unfold dG at V;simp at V) (λ_ _ _ _ _=>rfl) (λe=>by simp at e) (λe=>by simp at e)
  .have hm:=h.m.ask y hi;have hs:=gF c x.st i;have hT:=(ir (c:=c) (j:=i) h.m.v hi).2 O;exact h.upd (p':=⟨7,0,0,0⟩) hi hm (λj H=>(ir (c:=c) h.m.v hi).1 H) (.inr (.inr (.inl ⟨rfl,rfl,by omega,by omega⟩))) (by rw[hs];exact dK h hi (by rw[I];rfl) (λ_ _=>rfl)) (λj H _ hw=>by rw[hs];exact h.fl j H hw) (λhw=>by unfold gK at hw;simp at hw) (λa _=>by rw[hs];exact Int.le_refl _) (λV=>by unfold dG at V;simp at V) (λ_ _ _ _ _=>rfl) (λ_ e=>by simp at e) (λ_ e=>by simp at e)
 .exact h
def RsI.leave(h:RsI c n N ml x){i:Nat}(hi:i<n):RsI c n N ml (aF x i):=by
 unfold aF;split
 .rename_i h10;have hk:=h.k i hi;obtain⟨p,hp⟩:=LE (sv x.U i);have O:=h.fl i hi;rw[<-hp]at hk h10 O ⊢;have Y:(p.a=1/\(sv x.st.T i).pc=0)\/(p.a=0/\(sv x.st.T i).pc=10):=by unfold iw at hk;omega
  obtain⟨pc,u,b,z⟩:=p;simp only at h10 Y;subst h10;rcases Y with⟨rfl,I⟩|⟨rfl,I⟩
  .exact h.upd (p':=⟨11,1,b,z⟩) hi h.m (λ_ _=>rfl) (.inr (.inl ⟨rfl,.inr (.inr (.inr rfl)),I⟩)) (dK h hi ahE (λ_ _=>rfl)) (λj H _ hw=>h.fl j H hw) (λhw=>by unfold gK at hw;simp at hw) (λ_ _=>Int.le_refl _) (λV=> .inl (by rw[<-hp];exact⟨rfl,.inl rfl⟩)) (λ_ _ _ _ _=>rfl) (λe=>by simp at e) (λe=>by simp at e)
  .exact h.upd (p':=⟨12,0,b,z⟩) hi h.m (λ_ _=>rfl) (.inr (.inr (.inr (.inl ⟨rfl,.inr (.inr (.inr (.inr (.inr rfl)))),I⟩)))) (dK h hi ahE (λ_ _=>rfl)) (λj H _ hw=>h.fl j H hw) (λ_=>O ⟨rfl,.inr (.inr (.inl rfl))⟩) (λ_ _=>Int.le_refl _) (λV=>by unfold dG at V;simp at V) (λ_ _ _ _ _=>rfl) (λ_ e=>by simp at e) (λ_ e=>by simp at e)
 .exact h
def kK{P Q:Prop}(q:Q)(h:Kq Q->P:=by
    intro q_
    have hn:=(y.nd i hi).1
    have Kw:∀j,j<n->c.node j<N:=λj hj=>(y.nd j hj).1
    have hk:=h.k i hi
    have E':=h.fl i hi
    have Lg:=h.dr i hi
    have oth:(sv x.st.T i).pc=10->∀j,j<n->j≠i->¬gK (sv x.U j):=λht j hj e hw=>e (h.one y hj hi (JI (h.k j hj) hw) ht)
    have Lo:(sv x.st.T i).pc=10->∀j,j<n->j≠i->(sv x.U j).a=0->(sv x.U j).pc=9->False:=λht j hj e h0 h9=>oth ht j hj e ⟨h0,.inr (.inl h9)⟩
    have bA:=hB.w.ld ahy (gaA (c.node i))
    have bW:=hB.w.ld ahy (gaW (c.node i))
    refine ajf ?_
    intro wA wW
    have lA:=rz h y l (z:=gaA (c.node i)) ⟨(eU hn).1,by have:=(eU hn).2;omega⟩ (ldW x.st.s.W (gaA (c.node i))+1) (s':=addA x.st.s (gaA (c.node i)) 1) (by rw[d7,wA])
    have lW:=rz h y l (z:=gaW (c.node i)) ⟨(bK hn).1,by have:=(bK hn).2;omega⟩ (ldW x.st.s.W (gaW (c.node i))+1) (s':=addA x.st.s (gaW (c.node i)) 1) (by rw[d7,wW])
    have lF:=λv=>rz h y l (z:=nuFl N) ⟨by unfold nuFl;omega,Int.le_refl _⟩ v (s':=ae x.st.s (nuFl N) v) (ay _ _ _)
    refine ai0 ?_
    intro fA fW HA
    have HW:∀a,a<N->ldW x.st.s.W (gaW a)<=ldW (addA x.st.s (gaW (c.node i)) 1).W (gaW a):=λa _=>by
      exact abW
    refine ajd ?_
    intro HF SF mS lS Km tS aS
    unfold a7
    rw[<-hp]
    rw[<-hp]at hk E' Lg
    rw[if_neg ahz]
    revert hn Kw hk E' Lg oth Lo bA bW wA wW lA lW lF fA fW HA HW HF SF mS lS Km tS aS
    exact q_.o):P:=h ⟨q⟩
def RsI.s1(h:RsI c n N ml x)(y:cO c n N ml)(l:NuL c N x.st.s.W)(hB:CoB c B x.st)(H:40<=B)(I:B<=1000000000000){i:Nat}(hi:i<n)(b z:Int)(hp:(⟨1,1,b,z⟩:Sp)=sv x.U i)(ht:(sv x.st.T i).pc=0):RsI c n N ml (a7 c N x i):=by refine kK ?_;intro hn Kw hk E' Lg oth Lo bA bW wA wW lA lW lF fA fW HA HW HF SF mS lS Km tS aS;show RsI c n N ml ⟨onA x.st (addA x.st.s (gaA (c.node i)) 1),x.d,x.U.set i ⟨2,1,b,z⟩⟩;exact h.upd (p':=⟨2,1,b,z⟩) hi lA.2 (λ_ _=>rfl) (.inr (.inl ⟨rfl,.inr (.inl rfl),ht⟩)) (Hz h Kw hi ahE rfl lA.1) (λj hj _ hw=>by rw[show ldW (onA x.st (addA x.st.s (gaA (c.node i)) 1)).s.W (nuFl N)=_ from fA];exact h.fl j hj hw) (λhw=>by unfold gK at hw;simp at hw) HA (λV=>by unfold dG at V;simp at V) (λ_ _ _ _ _=>rfl) (λe=>by simp at e) (λe=>by simp at e)
def RsI.s2(h:RsI c n N ml x)(y:cO c n N ml)(l:NuL c N x.st.s.W)(hB:CoB c B x.st)(I:40<=B)(O:B<=1000000000000){i:Nat}(hi:i<n)(b z:Int)(hp:(⟨2,1,b,z⟩:Sp)=sv x.U i)(ht:(sv x.st.T i).pc=0):RsI c n N ml (a7 c N x i):=by
 refine kK ?_;intro hn Kw hk E' Lg oth Lo bA bW wA wW lA lW lF fA fW HA HW HF SF mS lS Km tS aS;have e:(af x.st.s (nuFl N)).W=x.st.s.W:=aQ _ _;show RsI c n N ml ⟨onA x.st (af x.st.s (nuFl N)),x.d,x.U.set i ⟨if ldW x.st.s.W (nuFl N)=0 then 10 else 2,1,b,z⟩⟩;by_cases H:ldW x.st.s.W (nuFl N)=0;.rw[if_pos H];exact h.upd (p':=⟨10,1,b,z⟩) hi (nM h y e) (λ_ _=>rfl) (.inr (.inl ⟨rfl,.inr (.inr (.inl rfl)),ht⟩)) (dK h hi ahE (λq _=>by show ldW (af _ _).W q=_;rw[e])) (λj hj _ hw=>by show ldW (af _ _).W _≠0;rw[e];exact h.fl j hj hw) (λhw=>by unfold gK at hw;simp at hw) (λa _=>by show _<=ldW (af _ _).W _;rw[e];exact Int.le_refl _) (λ_=> .inr (λj hj _ hw=>h.fl j hj hw H)) (λ_ _ _ _ _=>rfl) (λe=>by simp at e) (λe=>by simp at e)
 .rw[if_neg H];exact h.upd (p':=⟨2,1,b,z⟩) hi (nM h y e) (λ_ _=>rfl) (.inr (.inl ⟨rfl,.inr (.inl rfl),ht⟩)) (dK h hi ahL (λq _=>by show ldW (af _ _).W q=_;rw[e])) (λj hj _ hw=>by show ldW (af _ _).W _≠0;rw[e];exact h.fl j hj hw) (λhw=>by unfold gK at hw;simp at hw) (λa _=>by show _<=ldW (af _ _).W _;rw[e];exact Int.le_refl _) (λV=>by unfold dG at V;simp at V) (λ_ _ _ _ _=>rfl) (λe=>by simp at e) (λe=>by simp at e)
def RsI.s11(h:RsI c n N ml x)(y:cO c n N ml)(l:NuL c N x.st.s.W)(hB:CoB c B x.st)(H:40<=B)(I:B<=1000000000000){i:Nat}(hi:i<n)(b z:Int)(hp:(⟨11,1,b,z⟩:Sp)=sv x.U i)(ht:(sv x.st.T i).pc=0):RsI c n N ml (a7 c N x i):=by refine kK ?_;intro hn Kw hk E' Lg oth Lo bA bW wA wW lA lW lF fA fW HA HW HF SF mS lS Km tS aS;show RsI c n N ml ⟨onA x.st (addA x.st.s (gaW (c.node i)) 1),x.d,x.U.set i ⟨0,1,b,z⟩⟩;exact h.upd (p':=⟨0,1,b,z⟩) hi lW.2 (λ_ _=>rfl) (.inl ⟨rfl,ht⟩) (F1 h Kw hi ahE rfl lW.1) (λj hj _ hw=>by rw[show ldW (onA x.st (addA x.st.s (gaW (c.node i)) 1)).s.W (nuFl N)=_ from fW];exact h.fl j hj hw) (λhw=>by unfold gK at hw;simp at hw) HW (λV=>by unfold dG at V;simp at V) (λ_ _ _ _ _=>rfl) (λe=>by simp at e) (λe=>by simp at e)
def RsI.s7(h:RsI c n N ml x)(y:cO c n N ml)(l:NuL c N x.st.s.W)(hB:CoB c B x.st)(I:40<=B)(O:B<=1000000000000){i:Nat}(hi:i<n)(b z:Int)(hp:(⟨7,0,b,z⟩:Sp)=sv x.U i)(ht:0<(sv x.st.T i).pc/\(sv x.st.T i).pc<10):RsI c n N ml (a7 c N x i):=by
 refine kK ?_;intro hn Kw hk E' Lg oth Lo bA bW wA wW lA lW lF fA fW HA HW HF SF mS lS Km tS aS;have a1:=aS.1 ht;show RsI c n N ml ⟨ak c x.st i,x.d,x.U.set i ⟨if bB (sv x.st.T i) (sv (ak c x.st i).T i)then 8 else 7,0,b,z⟩⟩;rw[a1.2];by_cases H:(sv (ak c x.st i).T i).pc=10;.rw[decide_eq_true H];exact h.upd (p':=⟨8,0,b,z⟩) hi mS tS (.inr (.inr (.inr (.inl ⟨rfl,.inr (.inr (.inl rfl)),by omega⟩)))) (dK h hi ahE (λq hq=>Km q ahy)) (λj hj _ hw=>by rw[Km _ (Int.le_refl _)];exact h.fl j hj hw) (λhw=>by unfold gK at hw;simp at hw) (λa ha=>by rw[Km _ ahG];exact Int.le_refl _) (λV=>by unfold dG at V;simp at V) (λ_ _ _ _ _=>rfl) (λ_ e=>by simp at e) (λ_ e=>by simp at e)
 .rw[decide_eq_false H];have Y:=a1.1;exact h.upd (p':=⟨7,0,b,z⟩) hi mS tS (.inr (.inr (.inl ⟨rfl,rfl,by omega,by omega⟩))) (dK h hi ahL (λq hq=>Km q ahy)) (λj hj _ hw=>by rw[Km _ (Int.le_refl _)];exact h.fl j hj hw) (λhw=>by unfold gK at hw;simp at hw) (λa ha=>by rw[Km _ ahG];exact Int.le_refl _) (λV=>by unfold dG at V;simp at V) (λ_ _ _ _ _=>rfl) (λ_ e=>by simp at e) (λ_ e=>by simp at e)
def RsI.s5(h:RsI c n N ml x)(y:cO c n N ml)(l:NuL c N x.st.s.W)(hB:CoB c B x.st)(H:40<=B)(I:B<=1000000000000){i:Nat}(hi:i<n)(b z:Int)(hp:(⟨5,0,b,z⟩:Sp)=sv x.U i)(ht:(sv x.st.T i).pc=10):RsI c n N ml (a7 c N x i):=by refine kK ?_;intro hn Kw hk E' Lg oth Lo bA bW wA wW lA lW lF fA fW HA HW HF SF mS lS Km tS aS;show RsI c n N ml ⟨onA x.st (ae x.st.s (nuFl N) 0),dV x.d N false,x.U.set i ⟨6,0,b,z⟩⟩;exact h.upd (p':=⟨6,0,b,z⟩) hi (lF 0).2 (λ_ _=>rfl) (.inr (.inr (.inr (.inl ⟨rfl,.inr (.inl rfl),ht⟩)))) (dK h hi ahE (SF 0)) (λj hj e hw=>absurd hw (oth ht j hj e)) (λhw=>by unfold gK at hw;simp at hw) (HF 0) (λV=>by unfold dG at V;simp at V) (λj hj e h0 h9=>(Lo ht j hj e h0 h9).elim) (λ_ e=>by simp at e) (λ_ e=>by simp at e)
def RsI.s6(h:RsI c n N ml x)(y:cO c n N ml)(l:NuL c N x.st.s.W)(hB:CoB c B x.st)(Y:40<=B)(KE:B<=1000000000000){i:Nat}(hi:i<n)(b z:Int)(hp:(⟨6,0,b,z⟩:Sp)=sv x.U i)(ht:(sv x.st.T i).pc=10):RsI c n N ml (a7 c N x i):=by
 refine kK ?_;intro hn Kw hk E' Lg oth Lo bA bW wA wW lA lW lF fA fW HA HW HF SF mS lS Km tS aS;have I:=g8 x.st.s x.d;have go:∀(H:Int) (d':Dr),(H=6\/H=8)->RsI c n N ml ⟨onA x.st (aj x.st.s x.d).1,d',x.U.set i ⟨H,0,b,z⟩⟩:=λH d' O=>by refine h.upd (p':=⟨H,0,b,z⟩) hi (nM h y I) (λ_ _=>rfl) (by rcases O with rfl|rfl;exact .inr (.inr (.inr (.inl ⟨rfl,.inr (.inl rfl),ht⟩)));exact .inr (.inr (.inr (.inl ⟨rfl,.inr (.inr (.inl rfl)),ht⟩)))) (dK h hi ?_ (λq _=>by show ldW (aj _ _).1.W q=_;rw[I])) (λj hj _ hw=>by show ldW (aj _ _).1.W _≠0;rw[I];exact h.fl j hj hw) (λhw=>by unfold gK at hw;simp only at hw;omega) (λa _=>by show _<=ldW (aj _ _).1.W _;rw[I];exact Int.le_refl _) (λV=>by unfold dG at V;simp at V) (λj hj e h0 h9=>(Lo ht j hj e h0 h9).elim) (λ_ e=>by simp only at e;omega) (λ_ e=>by simp only at e;omega);rw[<-hp,lY ahz,lY ahz]
 show RsI c n N ml ⟨onA x.st (aj x.st.s x.d).1,(aj x.st.s x.d).2.1,x.U.set i ⟨if (aj x.st.s x.d).2.2=false then 6 else 8,0,b,z⟩⟩;exact go _ _ (by split<;>omega)
def RsI.s8(h:RsI c n N ml x)(y:cO c n N ml)(l:NuL c N x.st.s.W)(hB:CoB c B x.st)(H:40<=B)(I:B<=1000000000000){i:Nat}(hi:i<n)(b z:Int)(hp:(⟨8,0,b,z⟩:Sp)=sv x.U i)(ht:(sv x.st.T i).pc=10):RsI c n N ml (a7 c N x i):=by
 refine kK ?_;intro hn Kw hk E' Lg oth Lo bA bW wA wW lA lW lF fA fW HA HW HF SF mS lS Km tS aS;show RsI c n N ml ⟨onA x.st (ae x.st.s (nuFl N) 1),dV x.d N true,x.U.set i ⟨9,0,b,z⟩⟩;have hN:1<=N:=by omega
 refine h.upd (p':=⟨9,0,b,z⟩) hi (lF 1).2 (λ_ _=>rfl) (.inr (.inr (.inr (.inl ⟨rfl,.inr (.inr (.inr (.inl rfl))),ht⟩)))) (dK h hi ahE (SF 1)) (λj hj e hw=>absurd hw (oth ht j hj e)) (λ_=>by show ldW (ae _ _ _).W _≠0;rw[(lF 1).1,if_pos rfl];decide) (HF 1) (λV=>by unfold dG at V;simp at V) (λj hj e h0 h9=>(Lo ht j hj e h0 h9).elim) (λ_ _=>?_) (λ_ e=>by simp at e);exact⟨⟨rfl,rfl,hN,rfl⟩,λe=>by simp[dV]at e,λj hj _=>Nat.zero_le _⟩
def RsI.s9(h:RsI c n N ml x)(y:cO c n N ml)(l:NuL c N x.st.s.W)(hB:CoB c B x.st)(KD:40<=B)(KE:B<=1000000000000){i:Nat}(hi:i<n)(b z:Int)(hp:(⟨9,0,b,z⟩:Sp)=sv x.U i)(ht:(sv x.st.T i).pc=10):RsI c n N ml (a7 c N x i):=by
 refine kK ?_;intro hn Kw hk E' Lg oth Lo bA bW wA wW lA lW lF fA fW HA HW HF SF mS lS Km tS aS;obtain⟨⟨q1,Y,q3,q4⟩,q5,q6⟩:=Lg rfl rfl;have Na:=E' ⟨rfl,.inr (.inl rfl)⟩;have I:=g8 x.st.s x.d;have hs:=svS (show i<x.U.length by rw[h.lU];exact hi)
 have nr:∀H j,dG (sv (x.U.set i ⟨H,0,b,z⟩) j)->j≠i/\dG (sv x.U j):=λH j V=>by
  rw[hs]at V;split at V;.unfold dG at V;simp at V
  .rename_i e;exact⟨e,V⟩
 have go:∀(H:Int) (d':Dr),(H=9\/H=10\/H=5)->(H=9->zZ c n N d' x.st.s.W (x.U.set i ⟨H,0,b,z⟩))->(H=10->∀j,j<n->j≠i->¬dG (sv x.U j))->RsI c n N ml ⟨onA x.st (aj x.st.s x.d).1,d',x.U.set i ⟨H,0,b,z⟩⟩:=λH d' I' o9 RS=>by
  refine h.upd (p':=⟨H,0,b,z⟩) hi (nM h y I) (λ_ _=>rfl) (by rcases I' with rfl|rfl|rfl;exact .inr (.inr (.inr (.inl ⟨rfl,.inr (.inr (.inr (.inl rfl))),ht⟩)));exact .inr (.inr (.inr (.inl ⟨rfl,.inr (.inr (.inr (.inr (.inl rfl)))),ht⟩)));exact .inr (.inr (.inr (.inl ⟨rfl,.inl rfl,ht⟩)))) (dK h hi ?_ (λq _=>by show ldW (aj _ _).1.W q=_;rw[I])) (λj hj _ hw=>by show ldW (aj _ _).1.W _≠0;rw[I];exact h.fl j hj hw) (λ_=>by show ldW (aj _ _).1.W _≠0;rw[I];exact Na) (λa _=>by show _<=ldW (aj _ _).1.W _;rw[I];exact Int.le_refl _) (λV=>by unfold dG at V;simp at V) (λj hj e h0 h9=>(Lo ht j hj e h0 h9).elim) (λ_ h9=>?_) (λ_ h10=>RS h10);.rw[<-hp,lY ahz,lY ahz]
  .show zZ c n N d' (aj _ _).1.W _;rw[I];exact o9 h9
 show RsI c n N ml ⟨onA x.st (aj x.st.s x.d).1,(aj x.st.s x.d).2.1,x.U.set i ⟨if (aj x.st.s x.d).2.2=false then 9 else if (9:Int)=6 then 8 else if (aj x.st.s x.d).2.1.clear=true then 10 else 5,0,b,z⟩⟩;by_cases NZ:x.d.second=true
 .have e1:aj x.st.s x.d=(af x.st.s (gaA x.d.at_),dT x.st.s x.d):=by unfold aj;rw[q1,NZ];rfl
  have e2:(aj x.st.s x.d).2=dT x.st.s x.d:=by rw[e1]
  rw[e2];unfold dT;by_cases O:ldW x.st.s.W (gaA x.d.at_)=x.d.o
  .rw[if_neg (by simpa using O)];have hg:=h.g x.d.at_ q3;have W1:=q5 NZ;have WA:gY c n x.U x.d.at_=0:=by omega
   have ND:∀j,j<n->dG (sv x.U j)->c.node j≠x.d.at_:=λj hj V e=>by
    have:0<gY c n x.U x.d.at_:=jK (P:=λj=>decide (c.node j=x.d.at_)&&fE (sv x.U j)) hj (by
     simp only[Bool.and_eq_true,decide_eq_true_eq]
     exact⟨e,EF ⟨V.1,.inr V.2⟩⟩)
    omega
   by_cases Pg:x.d.at_+1=x.d.lim;.rw[if_pos Pg];refine go 10 _ ahy (λe=>by simp at e) (λ_ j hj e V=>?_);have h1:=q6 j hj V;have h2:=ND j hj V;have h3:=Kw j hj;omega
   .rw[if_neg Pg];refine go 9 _ ahy (λ_=>⟨⟨q1,Y,by show x.d.at_+1<N;omega,q4⟩,λe=>by simp at e,λj hj V=>?_⟩) (λe=>by simp at e);exact acp
  .rw[if_pos O,if_pos Y];exact go 5 _ ahy (λe=>by simp at e) (λe=>by simp at e)
 .refine ajI ?_;intro e1 e2;exact go 9 _ ahy (λ_=>⟨⟨q1,Y,q3,q4⟩,λ_=>Int.le_refl _,λj hj V=>q6 j hj (nr 9 j V).2⟩) (λe=>by simp at e)
def RsI.s12(h:RsI c n N ml x)(y:cO c n N ml)(l:NuL c N x.st.s.W)(hB:CoB c B x.st)(H:40<=B)(I:B<=1000000000000){i:Nat}(hi:i<n)(b z:Int)(hp:(⟨12,0,b,z⟩:Sp)=sv x.U i)(ht:(sv x.st.T i).pc=10):RsI c n N ml (a7 c N x i):=by
 refine kK ?_;intro hn Kw hk E' Lg oth Lo bA bW wA wW lA lW lF fA fW HA HW HF SF mS lS Km tS aS;show RsI c n N ml ⟨aA (onA x.st (ae x.st.s (nuFl N) 0)) i,x.d,x.U.set i ⟨13,0,b,z⟩⟩;refine aj6 ?_;intro hm hs Rb;refine h.upd (p':=⟨13,0,b,z⟩) hi hm (λj hj=>(eY (st:=onA x.st (ae x.st.s (nuFl N) 0)) (lF 0).2.v hi).1 hj) (.inr (.inr (.inr (.inr ⟨rfl,rfl,by omega⟩)))) ?_ (λj hj e hw=>absurd hw (oth ht j hj e)) (λhw=>by unfold gK at hw;simp at hw) (λa ha=>?_) (λV=>by unfold dG at V;simp at V) (λ_ _ _ _ _=>rfl) (λ_ e=>by simp at e) (λ_ e=>by simp at e);.show ∀a,a<N->ldW (aA _ i).s.W _=_;rw[hs];exact dK h hi ahE (SF 0)
 .show _<=ldW (aA _ i).s.W _;rw[hs];exact HF 0 a ha
def RsI.s13(h:RsI c n N ml x)(y:cO c n N ml)(l:NuL c N x.st.s.W)(hB:CoB c B x.st)(I:40<=B)(O:B<=1000000000000){i:Nat}(hi:i<n)(b z:Int)(hp:(⟨13,0,b,z⟩:Sp)=sv x.U i)(ht:10<(sv x.st.T i).pc):RsI c n N ml (a7 c N x i):=by
 refine kK ?_;intro hn Kw hk E' Lg oth Lo bA bW wA wW lA lW lF fA fW HA HW HF SF mS lS Km tS aS;have a1:=aS.2 ht;show RsI c n N ml ⟨ak c x.st i,x.d,x.U.set i ⟨if bB (sv x.st.T i) (sv (ak c x.st i).T i)then 0 else 13,0,b,z⟩⟩;rw[a1.2];by_cases H:(sv (ak c x.st i).T i).pc=0;.rw[decide_eq_true H];exact h.upd (p':=⟨0,0,b,z⟩) hi mS tS (.inl ⟨rfl,by omega⟩) (dK h hi ahE (λq hq=>Km q ahy)) (λj hj _ hw=>by rw[Km _ (Int.le_refl _)];exact h.fl j hj hw) (λhw=>by unfold gK at hw;simp at hw) (λa ha=>by rw[Km _ ahG];exact Int.le_refl _) (λV=>by unfold dG at V;simp at V) (λ_ _ _ _ _=>rfl) (λ_ e=>by simp at e) (λ_ e=>by simp at e)
 .rw[decide_eq_false H];have Y:=a1.1;exact h.upd (p':=⟨13,0,b,z⟩) hi mS tS (.inr (.inr (.inr (.inr ⟨rfl,rfl,by omega⟩)))) (dK h hi ahL (λq hq=>Km q ahy)) (λj hj _ hw=>by rw[Km _ (Int.le_refl _)];exact h.fl j hj hw) (λhw=>by unfold gK at hw;simp at hw) (λa ha=>by rw[Km _ ahG];exact Int.le_refl _) (λV=>by unfold dG at V;simp at V) (λ_ _ _ _ _=>rfl) (λ_ e=>by simp at e) (λ_ e=>by simp at e)
def RsI.step(h:RsI c n N ml x)(y:cO c n N ml)(l:NuL c N x.st.s.W)(hB:CoB c B x.st)(V:40<=B)(Y:B<=1000000000000){i:Nat}(hi:i<n):RsI c n N ml (a7 c N x i):=by
 have hk:=h.k i hi;obtain⟨p,I⟩:=LE (sv x.U i);rw[<-I]at hk;by_cases O:p.pc=0\/p.pc=10;.unfold a7;rw[<-I,if_pos O];exact h
 unfold iw at hk;obtain⟨pc,u,b,z⟩:=p;simp only at hk O;rcases hk with⟨q1,q2⟩|⟨rfl,q2,H⟩|⟨rfl,rfl,H⟩|⟨rfl,q2,H⟩|⟨rfl,rfl,H⟩
 .exact absurd (.inl q1) O
 .rcases q2 with rfl|rfl|rfl|rfl
  .exact h.s1 y l hB V Y hi b z I H
  .exact h.s2 y l hB V Y hi b z I H
  .exact absurd (.inr rfl) O
  .exact h.s11 y l hB V Y hi b z I H
 .exact h.s7 y l hB V Y hi b z I H
 .rcases q2 with rfl|rfl|rfl|rfl|rfl|rfl
  .exact h.s5 y l hB V Y hi b z I H
  .exact h.s6 y l hB V Y hi b z I H
  .exact h.s8 y l hB V Y hi b z I H
  .exact h.s9 y l hB V Y hi b z I H
  .exact absurd (.inr rfl) O
  .exact h.s12 y l hB V Y hi b z I H
 .exact h.s13 y l hB V Y hi b z I H
end
end
section
open Go Go.RowKit
section
variable{c:CoC}{x:Nu}{st:Co}{B:Int}{o:Nat}
def zr(h:bU c n L B o x.st)(k:k8 c n N L)(hB:40<=B)(V:B<=1000000000000){i:Nat}(hi:i<n)(p:Sp):bU c n L (B+4) (o+1) (fm c N x i p).1:=by
 refine ajk ?_;intro Mj Pk Kp;have Y:∀{st'},bU c n L (B+2) (o+1) st'->bU c n L (B+4) (o+1) (bG c st' i):=λ{st'} q=>by exact abX
 have I:∀{st'},bU c n L (B+2) (o+1) st'->bU c n L (B+4) (o+1) (aA st' i):=λ{st'} q=>by exact abY
 have H:bU c n L (B+4) (o+1) (onA x.st (aj x.st.s x.d).1):=h.on ahy ((h.bd.w.mono ahy).same (g8 _ _)) (vK _ _);unfold fm;split
 .split;.exact abZ
  split;.exact(Pk _).mono ahy
  .exact abZ
 split;.exact ab0
 split;.exact I (Kp _ _ ahy)
 split;.exact ab0
 split;.exact(Kp _ _ ahy).mono ahy
 split;.exact(Kp _ _ ahy).mono ahy
 .exact H
def zt(h:bU c n L B o x.st)(k:k8 c n N L)(I:40<=B)(H:B<=1000000000000){i:Nat}(hi:i<n):bU c n L (B+4) (o+1) (a7 c N x i).st:=by
 unfold a7;split;.exact h.up ahy ahy
 .exact zr h k I H hi _
structure RsS(c:CoC)(n N L:Nat)(ml:Nat->Nat)(B:Int)(x:Nu):Prop where
 i:RsI c n N ml x
 ok:bU c n L B x.st.s.ops x.st
 dok:x.d.busy=true->x.d.at_<N/\x.d.lim=N
def DL{d:Dr}(h:1<=N)(b:Bool):(dV d N b).busy=true->(dV d N b).at_<N/\(dV d N b).lim=N:=λ_=>⟨h,rfl⟩
def Bb{d:Dr}{s:Ar}(h:d.busy=true->d.at_<N/\d.lim=N):(aj s d).2.1.busy=true->(aj s d).2.1.at_<N/\(aj s d).2.1.lim=N:=by
 unfold aj;split
 .rename_i I;have:=h I;split
  .show(dT s d).1.busy=true->(dT s d).1.at_<N/\(dT s d).1.lim=N;unfold dT;split
   .split;.intro e;simp at e
    .intro _;exact this
   .split;.intro e;simp at e
    .intro _;simp only;omega
  .intro _;exact this
 .exact h
def Ba{c:CoC}{x:Nu}(h:x.d.busy=true->x.d.at_<N/\x.d.lim=N)(hN:1<=N)(i:Nat)(p:Sp):(fm c N x i p).2.1.busy=true->(fm c N x i p).2.1.at_<N/\(fm c N x i p).2.1.lim=N:=by unfold fm;(repeat' split)<;>first|exact h|exact DL hN _|exact Bb h
def FS{c:CoC}{x:Nu}(h:x.d.busy=true->x.d.at_<N/\x.d.lim=N)(hN:1<=N)(i:Nat):(a7 c N x i).d.busy=true->(a7 c N x i).d.at_<N/\(a7 c N x i).d.lim=N:=by
 unfold a7;split;.exact h
 .exact Ba h hN _ _
def xM(c:CoC)(x:Nu)(i:Nat)(r:Bool):(cI c x i r).d=x.d:=by unfold cI;(repeat' split)<;>rfl
def zj(x:Nu)(i:Nat):(aF x i).d=x.d:=by unfold aF;split<;>rfl
def sx(c:CoC)(N:Nat)(x:Nu)(kd i:Int):Nu:=
 if okI x.U i then if kd=0 then a7 c N x i.toNat else if kd=1 then cI c x i.toNat false else if kd=2 then aF x i.toNat else if kd=3 then cI c x i.toNat true else x else x
def RsS.act(h:RsS c n N L ml B x)(k:NuK c n N L ml)(H:40<=B)(I:B<=1000000000000)(kd i:Int):RsS c n N L ml (B+4) (sx c N x kd i)/\(sx c N x kd i).st.s.ops<=x.st.s.ops+1/\(kd≠0->(sx c N x kd i).st.s.ops=x.st.s.ops):=by
  have same:RsS c n N L ml (B+4) x:=⟨h.i,h.ok.mono ahy,h.dok⟩;unfold sx;split
  . rename_i O;have hi:i.toNat<n:=(by obtain⟨V,h1⟩:=O;have:=h.i.lU;omega);split;. rename_i k0;have q:=zt h.ok k.w H I hi;refine⟨⟨h.i.step k.y ⟨k.tg,by rw[h.ok.len];exact k.len⟩ h.ok.bd H I hi,⟨q.bd,q.v,q.len,Nat.le_refl _⟩,FS h.dok k.N1 _⟩,q.ops,λe=>absurd k0 e⟩
    split;. have q:=lM h.ok k.w H hi false;refine⟨⟨h.i.ask k.y hi false,by rw[q.2];exact q.1,by rw[xM];exact h.dok⟩,by rw[q.2];omega,λ_=>by rw[q.2]⟩
    split;. have e:=kY x i.toNat;refine⟨⟨h.i.leave hi,by rw[e];exact same.ok,by rw[zj];exact h.dok⟩,by rw[e];omega,λ_=>by rw[e]⟩
    split;. have q:=lM h.ok k.w H hi true;refine⟨⟨h.i.ask k.y hi true,by rw[q.2];exact q.1,by rw[xM];exact h.dok⟩,by rw[q.2];omega,λ_=>by rw[q.2]⟩
    . exact⟨same,by omega,λ_=>rfl⟩
  . exact⟨same,by omega,λ_=>rfl⟩
end
section
variable{kg kl par:Nat}{bud:Int}{s:Ar}
def J6(hc:a5 P T=0)(LK:1<=kg/\kg<=5)(Y:1<=kl/\kl<=5)(hp:1<=par/\par<=4)(hs:s.W=[]):RsS (fi kg kl par bud P T (smA s (ac P).length)) T.length (ac P).length (bJ kg kl par P T (smA s (ac P).length)).s.W.length (mtQ P T) 40 ⟨bJ kg kl par P T (smA s (ac P).length),dr0,List.replicate T.length Sp.zero⟩/\(bJ kg kl par P T (smA s (ac P).length)).s.ops<=s.ops+40:=by
  refine ajM ?_;intro hz O5 mP;have hw:∀y:Int,y<=((smA s (ac P).length).W.length:Int)->ldW (bJ kg kl par P T (smA s (ac P).length)).s.W y=0:=λy hy=>by exact ab1
  have h:∀i,sv (List.replicate T.length Sp.zero) i=Sp.zero:=svR _;refine⟨⟨⟨xI hc LK Y hp O5,by simp,λi hi=> .inl ⟨?_,?_⟩,λa V=>?_,λi hi hw=>?_,λi hi h0 O=>?_,λi hi h0 O=>?_⟩,⟨mP.bd,mP.v,mP.len,Nat.le_refl _⟩,λe=>by simp[dr0]at e⟩,mP.ops⟩;. show(sv (List.replicate T.length Sp.zero) i).pc=0;rw[h];rfl
  . show(sv (List.replicate T.length Sp.zero) i).pc=0;rw[h];rfl
  . have hc0:gY (fi kg kl par bud P T (smA s (ac P).length)) T.length (List.replicate T.length Sp.zero) a=0:=(by unfold gY jp;refine List.countP_eq_zero.2 (λj _=>?_);rw[h];simp[fE,Sp.zero]);show ldW _ _=ldW _ _+((gY _ _ (List.replicate T.length Sp.zero) a:Nat):Int);rw[hc0];have g1:=eU V;have g2:=bK V;unfold nuFl at g1 g2;have hl:=hz.2;rw[hw _ ah1,hw _ ah1];rfl
  . have I:gK (sv (List.replicate T.length Sp.zero) i):=hw;rw[h]at I;unfold gK Sp.zero at I;simp at I
  . have H:(sv (List.replicate T.length Sp.zero) i).pc=9:=O;rw[h]at H;simp[Sp.zero]at H
  . have H:(sv (List.replicate T.length Sp.zero) i).pc=10:=O;rw[h]at H;simp[Sp.zero]at H
end
end
section
open Go Go.RowKit
variable{c:CoC}
def kX(x:Nu)(i:Nat)(hi:i<x.U.length)(h:(sv x.U i).pc=10->(sv x.U i).a=0\/(sv x.U i).a=1):kQ (sv x.U i).pc (sv (aF x i).U i).pc=decide ((sv x.U i).pc=10):=by
 unfold aF kQ;split;.rename_i e;have:=h e;rw[decide_eq_true e];refine decide_eq_true (.inl ⟨.inr e,?_⟩);rw[show({x with U:=x.U.set i {sv x.U i with pc:=12-(sv x.U i).a}}:Nu).U=x.U.set i {sv x.U i with pc:=12-(sv x.U i).a} from rfl,gh hi,if_pos rfl];dsimp only;omega
 .rename_i e;rw[decide_eq_false e];exact decide_eq_false ahy
def um:kO where
 ty:=330
 pt:=274
 md:=1
 step:=cH
 ask:=λc x i r=>cI c x i r
 ok:=NuS
def un(hk:NuK c T.length (ac P).length L (mtQ P T)):um.Ok c P T L where
 act:=λB x hs h1 H i hi=>by
  have hl:okI x.U (i:Int):=⟨by omega,by rw[hs.i.lU];omega⟩
  have a0:=NuS.act hs hk h1 H 0 (i:Int)
  have a1:=λr:Bool=>NuS.act hs hk h1 H (if r then 3 else 1) (i:Int)
  have a2:=NuS.act hs hk h1 H 2 (i:Int)
  unfold sw at a0 a1 a2
  exact acq
 mono:=λB B' x h O=>⟨h.i,h.ok.mono O⟩
 lU:=λB x h=>h.i.lU
 safe:=λB x h i j hi hj h1 H V=>h.i.safe hk.y hi h1 V hj H
 link:=λB x h i hi=>by
  have:=h.i.k i hi
  unfold hY at this
  omega
 askS:=λx i r=>by
  exact acr
 cS:=λB BC w a g X q x BB i h hs O Y I hi=>by
  have C:=bU.pre (x:=X.x) (by rw[h.nT.1];exact hs.ok) aiE h.co.fx O.1 O.2 Y
  have k:=ES h i hi (hs.i.k i hi) Y hk.N1 (λh9 ab=>((hs.i.dr i hi (by have:=hs.i.k i hi;unfold hY at this;show(sv x.U i).a=0;omega) h9).1.2.2.1)) C
  refine(DS I (i:Int) (R:=λr w'=>r=dm (sv x.U i) (sv (cH c (ac P).length x i).U i)/\aw 330 B BC w' a g X c P T (cH c (ac P).length x i).st (cH c (ac P).length x i).d (cH c (ac P).length x i).U/\aa (SmS a g X) w w') (k.mono ?_)).mono λ_ _ q=>q.to λ_ _ q=>q
  rintro e w' ⟨rfl,k2,t2⟩
  refine⟨_,rfl,?_,k2,t2⟩
  by_cases e:(sv x.U i).pc=0\/(sv x.U i).pc=10
  .rw[show cH c (ac P).length x i=x by unfold cH;rw[if_pos e]]
   exact acs
  .unfold dm kQ
   by_cases f:(sv (cH c (ac P).length x i).U i).pc=10\/(sv (cH c (ac P).length x i).U i).pc=0
   .exact acu
   .exact acv
 cA:=λB BC w a g X q x i r h I hi=>by
  refine akk ?_
  intro hl
  refine(FW I (i:Int) r (R:=λb w'=>b=decide ((sv x.U i).pc=0)/\aw 330 B BC w' a g X c P T (cI c x i r).st (cI c x i r).d (cI c x i r).U/\aa (SmS a g X) w w') ((FB h i hi r).mono ?_)).mono λ_ _ q=>q.to λ_ _ q=>q
  exact acw
 cL:=λB BC w a g X q x i h I hi ha=>by
  refine akk ?_
  intro hl
  refine(Be I (i:Int) (R:=λb w'=>b=decide ((sv x.U i).pc=10)/\aw 330 B BC w' a g X c P T (aF x i).st (aF x i).d (aF x i).U/\aa (SmS a g X) w w') ((BU h i hi ha).mono ?_)).mono λ_ _ q=>q.to λ_ _ q=>q
  exact acx
 cP:=λB BC w a g X q x i h I hi=>DP I (i:Int) _ λW b=>by
  have k:=pE (h.below b) (i:Int)
  exact acy
def uq:kO where
 ty:=335
 pt:=277
 md:=2
 step:=a7
 ask:=λc x i r=>cI c x i r
 ok:=RsS
def ur(hk:NuK c T.length (ac P).length L (mtQ P T)):uq.Ok c P T L where
 act:=λB x hs h1 H i hi=>by
  have hl:okI x.U (i:Int):=⟨by omega,by rw[hs.i.lU];omega⟩
  have a0:=RsS.act hs hk h1 H 0 (i:Int)
  have a1:=λr:Bool=>RsS.act hs hk h1 H (if r then 3 else 1) (i:Int)
  have a2:=RsS.act hs hk h1 H 2 (i:Int)
  unfold sx at a0 a1 a2
  exact acq
 mono:=λB B' x h O=>⟨h.i,h.ok.mono O,h.dok⟩
 lU:=λB x h=>h.i.lU
 safe:=λB x h i j hi hj h1 H V=>h.i.safe hk.y hi h1 V hj H
 link:=λB x h i hi=>by
  have:=h.i.k i hi
  unfold iw at this
  omega
 askS:=λx i r=>by
  exact acr
 cS:=λB BC w a g X q x BB i h hs O Y I hi=>by
  have C:=bU.pre (x:=X.x) (by rw[h.nT.1];exact hs.ok) aiE h.co.fx O.1 O.2 Y
  have k:=ET h i hi (hs.i.k i hi) Y hk.N1 (λ_ _ I=>(hs.dok I).1) C
  refine(DT I (i:Int) (R:=λr w'=>r=dm (sv x.U i) (sv (a7 c (ac P).length x i).U i)/\aw 335 B BC w' a g X c P T (a7 c (ac P).length x i).st (a7 c (ac P).length x i).d (a7 c (ac P).length x i).U/\aa (SmS a g X) w w') (k.mono ?_)).mono λ_ _ q=>q.to λ_ _ q=>q
  rintro e w' ⟨rfl,k2,t2⟩
  refine⟨_,rfl,?_,k2,t2⟩
  by_cases e:(sv x.U i).pc=0\/(sv x.U i).pc=10
  .rw[show a7 c (ac P).length x i=x by unfold a7;rw[if_pos e]]
   exact acs
  .unfold dm kQ
   by_cases f:(sv (a7 c (ac P).length x i).U i).pc=10\/(sv (a7 c (ac P).length x i).U i).pc=0
   .exact acu
   .exact acv
 cA:=λB BC w a g X q x i r h I hi=>by
  refine akk ?_
  intro hl
  refine(FX I (i:Int) r (R:=λb w'=>b=decide ((sv x.U i).pc=0)/\aw 335 B BC w' a g X c P T (cI c x i r).st (cI c x i r).d (cI c x i r).U/\aa (SmS a g X) w w') ((FC h i hi r).mono ?_)).mono λ_ _ q=>q.to λ_ _ q=>q
  exact acw
 cL:=λB BC w a g X q x i h I hi ha=>by
  refine akk ?_
  intro hl
  refine(Bf I (i:Int) (R:=λb w'=>b=decide ((sv x.U i).pc=10)/\aw 335 B BC w' a g X c P T (aF x i).st (aF x i).d (aF x i).U/\aa (SmS a g X) w w') ((BV h i hi ha).mono ?_)).mono λ_ _ q=>q.to λ_ _ q=>q
  exact acx
 cP:=λB BC w a g X q x i h I hi=>DQ I (i:Int) _ λW b=>by
  have k:=pF (h.below b) (i:Int)
  exact acy
def ut:kO where
 ty:=337
 pt:=280
 md:=3
 step:=bo
 ask:=λc x i r=>ff x i r
 ok:=WsS
def uu(hk:NuK c T.length (ac P).length L (mtQ P T)):ut.Ok c P T L where
 act:=λB x hs h1 H i hi=>by
  have hl:okI x.U (i:Int):=⟨by omega,by rw[hs.i.lU];omega⟩
  have a0:=WsS.act hs hk h1 H 0 (i:Int)
  have a1:=λr:Bool=>WsS.act hs hk h1 H (if r then 3 else 1) (i:Int)
  have a2:=WsS.act hs hk h1 H 2 (i:Int)
  unfold sy at a0 a1 a2
  exact acq
 mono:=λB B' x h O=>⟨h.i,h.ok.mono O⟩
 lU:=λB x h=>h.i.lU
 safe:=λB x h i j hi hj h1 H h3=>h.i.safe hk.y hi h1 h3 hj H
 link:=λB x h i hi=>by
  have:=h.i.k i hi
  unfold ia at this
  omega
 askS:=λx i r=>by
  show(ff x i r).st.s=x.st.s
  unfold ff
  split
  .rfl
  .rfl
 cS:=λB BC w a g X q x BB i h hs O Y I hi=>by
  have C:=bU.pre (x:=X.x) (by rw[h.nT.1];exact hs.ok) aiE h.co.fx O.1 O.2 Y
  have k:=EU h i hi (hs.i.k i hi) Y hk.N1 (λV h9 _=>((hs.i.dr i hi V h9).1.2.2.1)) C
  refine(DU I (i:Int) (R:=λr w'=>r=dm (sv x.U i) (sv (bo c (ac P).length x i).U i)/\aw 337 B BC w' a g X c P T (bo c (ac P).length x i).st (bo c (ac P).length x i).d (bo c (ac P).length x i).U/\aa (SmS a g X) w w') (k.mono ?_)).mono λ_ _ q=>q.to λ_ _ q=>q
  rintro e w' ⟨rfl,k2,t2⟩
  refine⟨_,rfl,?_,k2,t2⟩
  by_cases e:(sv x.U i).pc=0\/(sv x.U i).pc=10
  .rw[show bo c (ac P).length x i=x by unfold bo;rw[if_pos e]]
   exact acs
  .unfold dm kQ
   by_cases f:(sv (bo c (ac P).length x i).U i).pc=10\/(sv (bo c (ac P).length x i).U i).pc=0
   .exact acu
   .exact acv
 cA:=λB BC w a g X q x i r h I hi=>by
  refine akk ?_
  intro hl
  refine(FY I (i:Int) r (R:=λb w'=>b=decide ((sv x.U i).pc=0)/\aw 337 B BC w' a g X c P T (ff x i r).st (ff x i r).d (ff x i r).U/\aa (SmS a g X) w w') ((FD h i hi r).mono ?_)).mono λ_ _ q=>q.to λ_ _ q=>q
  rintro e w' ⟨rfl,k2,t2⟩
  refine⟨_,rfl,?_,k2,t2⟩
  unfold ff
  exact acz
 cL:=λB BC w a g X q x i h I hi ha=>by
  refine akk ?_
  intro hl
  refine(Bg I (i:Int) (R:=λb w'=>b=decide ((sv x.U i).pc=10)/\aw 337 B BC w' a g X c P T (aF x i).st (aF x i).d (aF x i).U/\aa (SmS a g X) w w') ((BW h i hi ha).mono ?_)).mono λ_ _ q=>q.to λ_ _ q=>q
  exact acx
 cP:=λB BC w a g X q x i h I hi=>DR I (i:Int) _ λW b=>by
  have k:=pG (h.below b) (i:Int)
  exact acy
end
end Go.Proofs.YtglokdbiggbkjaaGreat
