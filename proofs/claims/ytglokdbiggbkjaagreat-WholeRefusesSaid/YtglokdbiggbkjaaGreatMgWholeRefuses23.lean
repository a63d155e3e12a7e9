/- Joined texts. -/
import Derived.Test.YtglokdbiggbkjaaGreatMgWholeRefuses0
import Derived.Test.YtglokdbiggbkjaaGreatMgWholeRefuses2
import Derived.Test.YtglokdbiggbkjaaGreatMgWholeRefuses20
import Derived.Test.YtglokdbiggbkjaaGreatMgWholeRefuses21
import Derived.Test.YtglokdbiggbkjaaGreatMgWholeRefuses22
set_option linter.unusedVariables false
set_option linter.unusedSimpArgs false
set_option linter.defProp false
set_option maxRecDepth 100000
set_option maxHeartbeats 16000000
open Go.Proofs.Tryz
namespace Go.Proofs.YtglokdbiggbkjaaGreat
open Go.IntKind(i64)
open Go.Value(int bool slice agg tuple pointer)
open Go.Ending(returned)
open Go.Obj(cells)
variable{n N j a nd L:Nat}{ml:Nat->Nat}{B BC:Nat->Prop}{w w' w0:World}{P T:List Int}{BB:Int}
section
open Go
variable{p':Sp}{s':Ar}{W':List Int}
def fk(c:CoC)(N:Nat)(x:Nu)(i:Nat)(p:Sp):Co×Dr×Int:=
 if p.a=1 then
  if p.pc=1 then(onA x.st (addA x.st.s (gaA (c.node i)) 1),x.d,2)
  else if p.pc=2 then(onA x.st (af x.st.s (nuFl N)),x.d,if ldW x.st.s.W (nuFl N)=0 then 10 else 2)
  else(onA x.st (addA x.st.s (gaW (c.node i)) 1),x.d,0)
 else if p.pc=7 then(aj c x.st i,x.d,if bo (sv x.st.T i) (sv (aj c x.st i).T i)then 8 else 7)
 else if p.pc=12 then(az (onA x.st (ae x.st.s (nuFl N) 0)) i,x.d,13)
 else if p.pc=13 then(aj c x.st i,x.d,if bo (sv x.st.T i) (sv (aj c x.st i).T i)then 0 else 13)
 else if p.pc=5 then(onA x.st (ae x.st.s (nuFl N) 0),dP x.d N false,6)
 else if p.pc=8 then(onA x.st (ae x.st.s (nuFl N) 1),dP x.d N true,9)
 else(onA x.st (ai x.st.s x.d).1,(ai x.st.s x.d).2.1,if (ai x.st.s x.d).2.2=false then p.pc else if p.pc=6 then 8 else if (ai x.st.s x.d).2.1.clear=true then 10 else 5)
def a6(c:CoC)(N:Nat)(x:Nu)(i:Nat):Nu:=
 if (sv x.U i).pc=0\/(sv x.U i).pc=10 then x
 else⟨(fk c N x i (sv x.U i)).1,(fk c N x i (sv x.U i)).2.1,x.U.set i {(sv x.U i)with pc:=(fk c N x i (sv x.U i)).2.2}⟩
def fz(p:Sp):Bool:=decide (p.a=1/\(p.pc=2\/p.pc=10\/p.pc=11))
def dA(p:Sp):Prop:=p.a=1/\(p.pc=10\/p.pc=11)
def gE(p:Sp):Prop:=p.a=0/\(p.pc=5\/p.pc=9\/p.pc=10\/p.pc=12)
def io(p t:Sp):Prop:=
 (p.pc=0/\t.pc=0)\/(p.a=1/\(p.pc=1\/p.pc=2\/p.pc=10\/p.pc=11)/\t.pc=0)\/
  (p.a=0/\p.pc=7/\0<t.pc/\t.pc<10)\/(p.a=0/\(p.pc=5\/p.pc=6\/p.pc=8\/p.pc=9\/p.pc=10\/p.pc=12)/\t.pc=10)\/(p.a=0/\p.pc=13/\10<t.pc)
def gN(c:CoC)(n:Nat)(U:List Sp)(a:Nat):Nat:=jc n (λj=>decide (c.node j=a)&&fz (sv U j))
def zk(c:CoC)(n N:Nat)(d:Dr)(W:List Int)(U:List Sp):Prop:=
 (d.busy=true/\d.once=true/\d.at_<N/\d.lim=N)/\(d.second=true->d.o<=ldW W (gaW d.at_))/\∀j,j<n->dA (sv U j)->d.at_<=c.node j
structure RsI(c:CoC)(n N:Nat)(ml:Nat->Nat)(x:Nu):Prop where
 m:CoM c n N ml x.st
 lU:x.U.length=n
 k:∀i,i<n->io (sv x.U i) (sv x.st.T i)
 g:∀a,a<N->ldW x.st.s.W (gaA a)=ldW x.st.s.W (gaW a)+(gN c n x.U a:Int)
 fl:∀i,i<n->gE (sv x.U i)->ldW x.st.s.W (nuFl N)≠0
 dr:∀i,i<n->(sv x.U i).a=0->(sv x.U i).pc=9->zk c n N x.d x.st.s.W x.U
 hd:∀i,i<n->(sv x.U i).a=0->(sv x.U i).pc=10->∀j,j<n->¬dA (sv x.U j)
section
variable{c:CoC}{x x':Nu}
def RsI.safe(h:RsI c n N ml x)(y:cH c n N ml){i:Nat}(hi:i<n)(h1:(sv x.U i).pc=10)(H:(sv x.U i).a=0)(hj:j<n)(I:(sv x.U j).pc=10):j=i/\(sv x.U j).a=0:=by
 have ki:=h.k i hi;have V:=h.k j hj;by_cases O:(sv x.U j).a=1;.exact absurd ⟨O,.inl I⟩ (h.hd i hi H h1 j hj)
 .have t1:(sv x.st.T i).pc=10:=by unfold io at ki;omega
  have t2:(sv x.st.T j).pc=10/\(sv x.U j).a=0:=by unfold io at V;omega
  exact abO
def RsI.one(h:RsI c n N ml x)(y:cH c n N ml){i:Nat}(hi:i<n)(H:j<n)(h1:(sv x.st.T i).pc=10)(I:(sv x.st.T j).pc=10):i=j:=h.m.one y hi H ahE ahE
def IT{p t:Sp}(h:io p t)(hw:gE p):t.pc=10:=by unfold io at h;unfold gE at hw;omega
def lJ{U:List Sp}{i:Nat}(h:i<U.length)(hi:i<n)(p:Sp)(a:Nat):gN c n (U.set i p) a+(if c.node i=a/\fz (sv U i)=true then 1 else 0)=gN c n U a+(if c.node i=a/\fz p=true then 1 else 0):=by unfold gN;have:=jv (P:=λj=>decide (c.node j=a)&&fz (sv U j)) (Q:=λj=>decide (c.node j=a)&&fz (sv (U.set i p) j)) (i:=i) (λj H=>by rw[svS h,if_neg H]) n hi;simp only[Bool.and_eq_true,decide_eq_true_eq]at this;rw[svS h,if_pos rfl]at this;exact this
def RsI.upd(h:RsI c n N ml x){i:Nat}(hi:i<n){st':Co}{d':Dr}(hm:CoM c n N ml st')(hT:∀j,j≠i->sv st'.T j=sv x.st.T j)(hk:io p' (sv st'.T i))(hg:∀a,a<N->ldW st'.s.W (gaA a)=ldW st'.s.W (gaW a)+(gN c n (x.U.set i p') a:Int))(Mc:∀j,j<n->j≠i->gE (sv x.U j)->ldW st'.s.W (nuFl N)≠0)(S3:gE p'->ldW st'.s.W (nuFl N)≠0)(hH:∀a,a<N->ldW x.st.s.W (gaW a)<=ldW st'.s.W (gaW a))(Lw:dA p'->dA (sv x.U i)\/∀j,j<n->j≠i->¬gE (sv x.U j))(hd:∀j,j<n->j≠i->(sv x.U j).a=0->(sv x.U j).pc=9->d'=x.d)(od:p'.a=0->p'.pc=9->zk c n N d' st'.s.W (x.U.set i p'))(oh:p'.a=0->p'.pc=10->∀j,j<n->j≠i->¬dA (sv x.U j)):RsI c n N ml ⟨st',d',x.U.set i p'⟩:=by
  refine akh ?_;intro hl;have hs:=svS hl p';refine⟨hm,by rw[List.length_set];exact h.lU,λj O=>?_,hg,λj O hw=>?_,λj O h0 h9=>?_,λj O h0 h10=>?_⟩
  . show io (sv (x.U.set i p') j) (sv st'.T j);rw[hs];split;. rename_i e;rw[e];exact hk
    . rename_i e;rw[hT j e];exact h.k j O
  . have La:gE (sv (x.U.set i p') j):=hw;rw[hs]at La;split at La;. exact S3 La
    . rename_i e;exact Mc j O e La
  . have H:(sv (x.U.set i p') j).a=0:=h0;have I:(sv (x.U.set i p') j).pc=9:=h9;rw[hs]at H I;by_cases e:j=i;. rw[if_pos e]at H I;exact od H I
    . rw[if_neg e]at H I;obtain⟨q1,q2,q3⟩:=h.dr j O H I;show zk c n N d' st'.s.W (x.U.set i p');rw[hd j O e H I];refine⟨q1,λhq=>Int.le_trans (q2 hq) (hH _ q1.2.2.1),λk hk V=>?_⟩;rw[hs]at V;split at V
      . rename_i e2;rcases Lw V with h1|h1
        . rw[e2];exact q3 i hi h1
        . exact absurd ⟨H,.inr (.inl I)⟩ (h1 j O e)
      . exact q3 k hk V
  . have H:(sv (x.U.set i p') j).a=0:=h0;have I:(sv (x.U.set i p') j).pc=10:=h10;rw[hs]at H I;intro k hk V;have Y:dA (sv (x.U.set i p') k):=V;rw[hs]at Y;by_cases e:j=i
    . rw[if_pos e]at H I;split at Y;. unfold dA at Y;omega
      . rename_i e2;exact oh H I k hk e2 Y
    . rw[if_neg e]at H I;split at Y
      . rcases Lw Y with h1|h1
        . exact h.hd j O H I i hi h1
        . exact h1 j O e ⟨H,.inr (.inr (.inl I))⟩
      . exact h.hd j O H I k hk Y
def qS(h:RsI c n N ml x)(y:cH c n N ml)(l:NuL c N x.st.s.W){z:Int}(hz:1<=z/\z<=nuFl N)(v:Int)(e:s'.W=stW x.st.s.W z v):(∀q,ldW s'.W q=if q=z then v else ldW x.st.s.W q)/\CoM c n N ml (onA x.st s'):=by exact abP
def mV(h:RsI c n N ml x)(y:cH c n N ml)(e:s'.W=x.st.s.W):CoM c n N ml (onA x.st s'):=
 h.m.low y (by rw[e]) (λq _=>by rw[e]) (h.m.v.ars s')
def CP(h:RsI c n N ml x){i:Nat}(hi:i<n)(I:fz p'=fz (sv x.U i))(a:Nat):gN c n (x.U.set i p') a=gN c n x.U a:=by have:=lJ (c:=c) (n:=n) (show i<x.U.length by rw[h.lU];exact hi) hi p' a;rw[I]at this;omega
def dE(h:RsI c n N ml x){i:Nat}(hi:i<n)(I:fz p'=fz (sv x.U i))(hw:∀q,q<nuFl N->ldW W' q=ldW x.st.s.W q):∀a,a<N->ldW W' (gaA a)=ldW W' (gaW a)+(gN c n (x.U.set i p') a:Int):=λa H=>by
 rw[hw _ (eO H).2,hw _ (bD H).2,CP h hi I a];exact h.g a H
def GG(h:RsI c n N ml x)(hn:∀j,j<n->c.node j<N){i:Nat}(hi:i<n)(h0:fz (sv x.U i)=false)(h1:fz p'=true)(hw:∀q,ldW W' q=if q=gaA (c.node i)then ldW x.st.s.W (gaA (c.node i))+1 else ldW x.st.s.W q):∀a,a<N->ldW W' (gaA a)=ldW W' (gaW a)+(gN c n (x.U.set i p') a:Int):=λa ha=>by
 have h2:=lJ (c:=c) (n:=n) (show i<x.U.length by rw[h.lU];exact hi) hi p' a
 exact abQ
def Fd(h:RsI c n N ml x)(hn:∀j,j<n->c.node j<N){i:Nat}(hi:i<n)(h0:fz (sv x.U i)=true)(h1:fz p'=false)(hw:∀q,ldW W' q=if q=gaW (c.node i)then ldW x.st.s.W (gaW (c.node i))+1 else ldW x.st.s.W q):∀a,a<N->ldW W' (gaA a)=ldW W' (gaW a)+(gN c n (x.U.set i p') a:Int):=λa ha=>by
 have h2:=lJ (c:=c) (n:=n) (show i<x.U.length by rw[h.lU];exact hi) hi p' a
 exact abR
end
end
section
open Go.RowKit
def bY(ty:TypeId)(B BC:Nat->Prop)(w:World)(a g:Nat)(X:SmX)(c:CoC)(P T:List Int)(r:Co×Dr×Int)(U:List Sp)(e:Ending)(w':World):Prop:=
 e= returned (J r.2.2)/\av ty B BC w' a g X c P T r.1 r.2.1 U/\aa (SmS a g X) w w'
section
variable{ty:TypeId}
variable{g:Nat}{X:SmX}{c:CoC}{st st':Co}{d d':Dr}{U:List Sp}{s':Ar}
def av.ltsA(h:av ty B BC w a g X c P T st d U):∀r∈SmS a g X,r<w.heap.size:=by exact ab9
def av.nodeA(h:av ty B BC w a g X c P T st d U)(hn:n<T.length):(c.node n)<(ac P).length/\(ao P T T.length)[n]? =some ((c.node n:Nat):Int):=by exact aca
def av.drw(h:av ty B BC w a g X c P T st d U):av ty B BC w.drew a g X c P T st d U:=h.below (Below.refl _ _).drew
end
section
variable{g:Nat}{X:SmX}{c:CoC}{st st':Co}{d d':Dr}{U:List Sp}{s':Ar}
def BS(h:av 335 B BC w a g X c P T st d U)(hnd:nd<(ac P).length)(Y:st.s.ops+1<=1000000000000):E 392 #[↑X.l,J 1,J nd] w (bY 335 B BC w a g X c P T (onA st (addA st.s (2*(nd:Int)+1) 1),d,2) U):=by have hnd:=qh hnd;have H:=qh h;clear h;go_enter func392,ntmps392;exact acc
def yG(h:av 335 B BC w a g X c P T st d U)(hnd:nd<(ac P).length)(Y:st.s.ops+1<=1000000000000):E 392 #[↑X.l,J 11,J nd] w (bY 335 B BC w a g X c P T (onA st (addA st.s (2*(nd:Int)+1+1) 1),d,0) U):=by have hnd:=qh hnd;have H:=qh h;clear h;go_enter func392,ntmps392;exact acd
def BT(h:av 335 B BC w a g X c P T st d U)(nd:Nat)(Y:st.s.ops+1<=1000000000000):E 392 #[↑X.l,J 2,J nd] w (bY 335 B BC w a g X c P T (onA st (af st.s (nuFl (ac P).length)),d,if ldW st.s.W (nuFl (ac P).length)=0 then 10 else 2) U):=by
  have H:=qh h;clear h;obtain⟨q,hq⟩:=LE (ldW st.s.W (nuFl (ac P).length));rw[<-hq];have HQ:=qh hq;clear hq;have hr:=qh (aD (H.o.drw).gd.ar (nuFl (ac P).length) Y);rw[<-HQ.o]at hr;obtain⟨v,O⟩:∃v:Int,v=if q=0 then 10 else 2:=⟨_,rfl⟩
  rw[<-O];have HV:=qh O;clear O;cases hz:(q==0)
  all_goals
    go_enter func392,ntmps392;have V:=qh H.o.drw;have T0:=qh (aa.refl (SmS a g X) w);go_wp2_with fail;first
    | (go_region_held3 (λW=>W.cell? X.l=some ↑a/\Z W X.l 4 (J (2*((ac P).length:Int)+1)))
        (first|exact⟨V.o.cs.1,V.o.cs.2.2.2.2.1⟩|exact⟨I.o.cs.1,I.o.cs.2.2.2.2.1⟩)
        (first
          | (go_at_call 173;go_loud (refine Op hr.o λw1 a3=>?_);have I:=qh (V.o.arT a3.o.2 a3.o.1);have T1:=qh (T0.o.drew.trans (fo a3.o.2)))))
    | fail "held"
  all_goals
    first
    | (go_wp2
       go_ret
       rw[HV.o,if_pos ah3]
       exact⟨rfl,I.o,T1.o⟩)
    | (go_wp2
       go_ret
       rw[HV.o,if_neg ah3]
       exact⟨rfl,I.o,T1.o⟩)
def Bi(h:av 335 B BC w a g X c P T st d U)(hN:1<=(ac P).length)(Y:st.s.ops+1<=1000000000000):E 394 #[↑X.l,J 5] w (bY 335 B BC w a g X c P T (onA st (ae st.s (nuFl (ac P).length) 0),dP d (ac P).length false,6) U):=by
 have H:=qh h;clear h;go_enter func394,ntmps394;have V:=H;have T0:=qh (aa.refl (SmS a g X) w);have I:=qh V.o.drw;have hr:=qh (am (I.o).gd.ar (nuFl (ac P).length) (0) Y);go_wp2_with fail
 go_region_held3 (λW=>W.cell? X.l=some ↑a/\Z W X.l 4 (J (2*((ac P).length:Int)+1)))
  (first|exact⟨I.o.cs.1,I.o.cs.2.2.2.2.1⟩|exact⟨K1.o.cs.1,K1.o.cs.2.2.2.2.1⟩)
  (first
   |(go_at_call 177;go_loud (refine Op hr.o λw1 O=>?_);have K1:=qh (I.o.arT O.o.2 O.o.1);have T1:=qh (T0.o.drew.trans (fo O.o.2))))
 exact ace
def Bk(h:av 335 B BC w a g X c P T st d U)(hN:1<=(ac P).length)(Y:st.s.ops+1<=1000000000000):E 394 #[↑X.l,J 8] w (bY 335 B BC w a g X c P T (onA st (ae st.s (nuFl (ac P).length) 1),dP d (ac P).length true,9) U):=by
 have H:=qh h;clear h;go_enter func394,ntmps394;have K0:=H;have T0:=qh (aa.refl (SmS a g X) w);have I:=qh K0.o.drw;have hr:=qh (am (I.o).gd.ar (nuFl (ac P).length) (1) Y);go_wp2_with fail
 go_region_held3 (λW=>W.cell? X.l=some ↑a/\Z W X.l 4 (J (2*((ac P).length:Int)+1)))
  (first|exact⟨I.o.cs.1,I.o.cs.2.2.2.2.1⟩|exact⟨O.o.cs.1,O.o.cs.2.2.2.2.1⟩)
  (first
   |(go_at_call 177;go_loud (refine Op hr.o λw1 V=>?_);have O:=qh (I.o.arT V.o.2 V.o.1);have T1:=qh (T0.o.drew.trans (fo V.o.2))))
 have KY:=qh O.o.drw;have KO:=qh (mK (KY.o).gd hN true);exact acf
def Bj(h:av 335 B BC w a g X c P T st d U)(I:d.busy=true->d.at_<(ac P).length)(Y:st.s.ops+1<=1000000000000):E 394 #[↑X.l,J 6] w (bY 335 B BC w a g X c P T (onA st (ai st.s d).1,(ai st.s d).2.1,if (ai st.s d).2.2=false then 6 else if (6:Int)=6 then 8 else if (ai st.s d).2.1.clear=true then 10 else 5) U):=by
 obtain⟨r,V⟩:=LE (ai st.s d);have O:=mL h.gd I Y;rw[<-V]at O ⊢;obtain⟨s1,d1,q⟩:=r;simp only at O ⊢;have HD:=qh O;have H:=qh h;clear h V I O;cases q;.exact acg
 .exact acg
def Bl(h:av 335 B BC w a g X c P T st d U)(I:d.busy=true->d.at_<(ac P).length)(Y:st.s.ops+1<=1000000000000):E 394 #[↑X.l,J 9] w (bY 335 B BC w a g X c P T (onA st (ai st.s d).1,(ai st.s d).2.1,if (ai st.s d).2.2=false then 9 else if (9:Int)=6 then 8 else if (ai st.s d).2.1.clear=true then 10 else 5) U):=by
 obtain⟨r,V⟩:=LE (ai st.s d);have O:=mL h.gd I Y;rw[<-V]at O ⊢;obtain⟨s1,d1,q⟩:=r;simp only at O ⊢;have HD:=qh O;have H:=qh h;clear h V I O;cases q;.exact acg
 .cases hc:d1.clear;all_goals go_enter func394,ntmps394;have d3:=H.o.cs.2.2.2.1;go_wp2_with fail;refine Op HD.o λw1 k4=>?_;have K1:=qh (H.o.gdT k4.o.2 k4.o.1);have T1:=qh (jk (X:=X) k4.o.2);have d4:=K1.o.cs.2.2.2.1;have TZ:=qh (C4 K1.o.gd);rw[hc]at TZ;go_wp2_with fail;refine LT TZ.o ?_;go_wp2;go_ret;unfold bY;simp only[hc];exact⟨rfl,K1.o,T1.o⟩
def zd(h:av 335 B BC w a g X c P T st d U)(n:Nat)(hn:n<T.length)(C:dc BB X.x c st)(Y:st.s.ops+1<=1000000000000):E 393 #[↑X.l,J n,J 7] w (bY 335 B BC w a g X c P T (aj c st n,d,if bo (sv st.T n) (sv (aj c st n).T n)then 8 else 7) U):=by exact ach
def vO(h:av 335 B BC w a g X c P T st d U)(n:Nat)(hn:n<T.length)(C:dc BB X.x c st)(Y:st.s.ops+1<=1000000000000):E 393 #[↑X.l,J n,J 13] w (bY 335 B BC w a g X c P T (aj c st n,d,if bo (sv st.T n) (sv (aj c st n).T n)then 0 else 13) U):=by exact ach
def vK(h:av 335 B BC w a g X c P T st d U)(n:Nat)(hn:n<T.length)(Y:st.s.ops+1<=1000000000000):E 393 #[↑X.l,J n,J 12] w (bY 335 B BC w a g X c P T (az (onA st (ae st.s (nuFl (ac P).length) 0)) n,d,13) U):=by
 have JG:n<X.x.n:=by rw[h.nT.1];exact hn
 have H:=qh h;clear h;go_enter func393,ntmps393;have V:=H;have T0:=qh (aa.refl (SmS a g X) w);have I:=qh V.o.drw;have hr:=qh (am (I.o).gd.ar (nuFl (ac P).length) (0) Y);go_wp2_with fail
 go_region_held3 (λW=>W.cell? X.l=some ↑a/\Z W X.l 4 (J (2*((ac P).length:Int)+1)))
  (first|exact⟨I.o.cs.1,I.o.cs.2.2.2.2.1⟩|exact⟨K1.o.cs.1,K1.o.cs.2.2.2.2.1⟩)
  (first
   |(go_at_call 177;go_loud (refine Op hr.o λw1 O=>?_);have K1:=qh (I.o.arT O.o.2 O.o.1);have T1:=qh (T0.o.drew.trans (fo O.o.2))))
 exact aci
def zb(h:av 335 B BC w a g X c P T st d U)(hN:1<=(ac P).length)(n:Nat)(Y:st.s.ops+1<=1000000000000):E 393 #[↑X.l,J n,J 5] w (bY 335 B BC w a g X c P T (onA st (ae st.s (nuFl (ac P).length) 0),dP d (ac P).length false,6) U):=by have Km:=Bi h hN Y;obtain⟨r,V⟩:∃r:Co×Dr×Int,r=(onA st (ae st.s (nuFl (ac P).length) 0),dP d (ac P).length false,6):=⟨_,rfl⟩;exact acj
def ze(h:av 335 B BC w a g X c P T st d U)(hN:1<=(ac P).length)(n:Nat)(Y:st.s.ops+1<=1000000000000):E 393 #[↑X.l,J n,J 8] w (bY 335 B BC w a g X c P T (onA st (ae st.s (nuFl (ac P).length) 1),dP d (ac P).length true,9) U):=by have Km:=Bk h hN Y;obtain⟨r,V⟩:∃r:Co×Dr×Int,r=(onA st (ae st.s (nuFl (ac P).length) 1),dP d (ac P).length true,9):=⟨_,rfl⟩;exact acj
def zc(h:av 335 B BC w a g X c P T st d U)(I:d.busy=true->d.at_<(ac P).length)(n:Nat)(Y:st.s.ops+1<=1000000000000):E 393 #[↑X.l,J n,J 6] w (bY 335 B BC w a g X c P T (onA st (ai st.s d).1,(ai st.s d).2.1,if (ai st.s d).2.2=false then 6 else if (6:Int)=6 then 8 else if (ai st.s d).2.1.clear=true then 10 else 5) U):=by have Km:=Bj h I Y;obtain⟨r,V⟩:∃r:Co×Dr×Int,r=(onA st (ai st.s d).1,(ai st.s d).2.1,if (ai st.s d).2.2=false then 6 else if (6:Int)=6 then 8 else if (ai st.s d).2.1.clear=true then 10 else 5):=⟨_,rfl⟩;exact acj
def zf(h:av 335 B BC w a g X c P T st d U)(I:d.busy=true->d.at_<(ac P).length)(n:Nat)(Y:st.s.ops+1<=1000000000000):E 393 #[↑X.l,J n,J 9] w (bY 335 B BC w a g X c P T (onA st (ai st.s d).1,(ai st.s d).2.1,if (ai st.s d).2.2=false then 9 else if (9:Int)=6 then 8 else if (ai st.s d).2.1.clear=true then 10 else 5) U):=by have Km:=Bl h I Y;obtain⟨r,V⟩:∃r:Co×Dr×Int,r=(onA st (ai st.s d).1,(ai st.s d).2.1,if (ai st.s d).2.2=false then 9 else if (9:Int)=6 then 8 else if (ai st.s d).2.1.clear=true then 10 else 5):=⟨_,rfl⟩;exact acj
end
end
section
open Go.RowKit
section
variable{g:Nat}{X:SmX}{c:CoC}{st st':Co}{d d':Dr}{U:List Sp}{s':Ar}
def xf(h:av 335 B BC w a g X c P T st d U)(n:Nat)(hn:n<T.length)(hc:(sv U n).pc=0\/(sv U n).pc=10):E 389 #[↑X.l,J n] w (au 335 B BC w a g X c P T U n (a6 c (ac P).length ⟨st,d,U⟩ n)):=by
 have JL:=aM;have I:=oS h n;have hp:=h.thr hn;have hg:getS U (n:Int)=sv U n:=by exact abV
 rw[hg]at I;have H:=qh h;refine aj0 ?_;intro t2 LU;have mT:a6 c (ac P).length ⟨st,d,U⟩ n=⟨st,d,U⟩:=by unfold a6;rw[if_pos hc]
 obtain⟨p,Y⟩:=LE (sv U n);rw[<-Y]at hc I;have V:=qh I;have HX:=qh mT;clear h hp Y mT hg I;obtain⟨pc,u,b,z⟩:=p;simp only at hc;unfold aF at V;rcases hc with rfl|rfl
 all_goals go_enter func389,ntmps389;go_wp2_with fail;refine Op V.o λw1 O=>?_;go_wp2;go_ret;rw[HX.o];first|exact au.stay ((H.o.below O.o).below ((Below.refl _ _).alloc (Nat.le_refl _) _)) ((aa.of_below O.o).alloc _) rfl|exact au.put HP.o ((H.o.below O.o).below ((Below.refl _ _).alloc (Nat.le_refl _) _)) ((aa.of_below O.o).alloc _) rfl ahO
def mp(h:av 335 B BC w a g X c P T st d U)(n:Nat)(hn:n<T.length)(pc b z:Int)(hU:sv U n=⟨pc,1,b,z⟩)(hc:pc≠0/\pc≠10)(hD:∀W,av 335 B BC W a g X c P T st d U->E 392 #[↑X.l,J pc,J (c.node n:Nat)] W (bY 335 B BC W a g X c P T (fk c (ac P).length ⟨st,d,U⟩ n ⟨pc,1,b,z⟩) U)):E 389 #[↑X.l,J n] w (au 335 B BC w a g X c P T U n (a6 c (ac P).length ⟨st,d,U⟩ n)):=by
  have JL:=aM;have F':=oS h n;have hp:=h.thr hn;have hg:getS U (n:Int)=sv U n:=by exact abV
  rw[hg]at F';have H:=qh h;refine aj0 ?_;intro t2 LU;obtain⟨r,V⟩:=LE (fk c (ac P).length ⟨st,d,U⟩ n ⟨pc,1,b,z⟩);have mT:a6 c (ac P).length ⟨st,d,U⟩ n=⟨r.1,r.2.1,U.set n ⟨r.2.2,1,b,z⟩⟩:=by unfold a6;exact ack
  rw[<-V]at hD;rw[hU]at hp F';obtain⟨s1,d1,v⟩:=r;simp only at mT;have u0:(pc==0)=false:=by simpa using hc.1
  have u1:(pc==10)=false:=by simpa using hc.2
  obtain⟨ab,JB⟩:=h.nodeA hn;obtain⟨nd,Vz⟩:=LE (c.node n);rw[<-Vz]at JB ab hD;have L4:=qh JB;have HX:=qh mT;have HS:=qh F';have HP:=qh hp;have HD:=qh hD;clear h hp mT hg F' hD V hU hc ab JB Vz;unfold aF at HS;cases v1:(v==10)<;>cases v2:(v==0)
  all_goals
    go_enter func389,ntmps389;go_wp2_with fail;refine ajb ?_;intro w1 b1 K1 T1;go_upto_region 2 with fail;obtain⟨sb,Kr⟩:=LE w1.heap.size;obtain⟨O,J1⟩:=LE (w1.alloc (cells #[J pc,J 1,J b,J z] 113));rw[<-J1,<-Kr];have Y:=qh (show av 335 B BC O a g X c P T st d U/\aa (SmS a g X) w O/\Blk O sb 113 #[J pc,J 1,J b,J z]/\sb∉SmS a g X from⟨by rw[J1];exact(K1.o).below ((Below.refl _ _).alloc (Nat.le_refl _) _),by rw[J1];exact T1.o.alloc _,by rw[J1,Kr];exact Blk.new _ _ _,λk=>by have:=K1.o.ltsA _ k;omega⟩);clear J1 Kr K1 T1;have v0:O.cell? sb=some (J pc):=Y.o.2.2.1.cell 0;have va:Z O sb 1 (J 1):=Y.o.2.2.1.cell 1;have l1:Z O X.l 1 ↑X.b:=Y.o.1.cs.2.1;have KY:=qh Y.o.1.drw;have Sd:=qh (kq O.drew X.b P T n hn KY.o.tb.f nd L4.o);have W1:=qh (HD.o _ KY.o);have HC:=qh (λW (st:Co) (d:Dr) (k:av 335 B BC W a g X c P T st d U) (I:Blk W sb 113 #[J pc,J 1,J b,J z])=>And.intro (show W.cell? sb=some (J pc)from I.cell 0) k.cs.2.1);go_wp2_with fail
    go_region_held3 (λW=>W.cell? sb=some (J pc)/\Z W X.l 1 ↑X.b)
      (first|exact⟨v0,l1⟩|exact M3.o)
      (first
        | (go_at_call 100;go_loud (refine LT Sd.o ?_))
        | (go_at_call 392;go_loud (refine Op W1.o λw3 k3=>?_);have M3:=qh (HC.o _ _ _ k3.o.1 ((((aa.refl (SmS a g X) O).drew).trans k3.o.2).blk Y.o.2.2.1 Y.o.2.2.2));have K3:=qh k3.o.1;have T3:=qh (Y.o.2.1.drew.trans k3.o.2)))
  all_goals refine ajR ?_;intro e0 z0 d6;have K4:=qh (K3.o.put0 HP.o (p':=(⟨v,1,b,z⟩:Sp)) (u:= J v) rfl);go_wp2;go_ret;rw[HX.o];first|exact au.stay (K4.o) (T3.o.trans (dW _ _)) rfl|exact au.put HP.o (K4.o) (T3.o.trans (dW _ _)) rfl ahO
def fP(h:av 335 B BC w a g X c P T st d U)(n:Nat)(hn:n<T.length)(pc b z:Int)(hU:sv U n=⟨pc,0,b,z⟩)(hc:pc≠0/\pc≠10)(hD:∀W,av 335 B BC W a g X c P T st d U->E 393 #[↑X.l,J n,J pc] W (bY 335 B BC W a g X c P T (fk c (ac P).length ⟨st,d,U⟩ n ⟨pc,0,b,z⟩) U)):E 389 #[↑X.l,J n] w (au 335 B BC w a g X c P T U n (a6 c (ac P).length ⟨st,d,U⟩ n)):=by
  have JL:=aM;have F':=oS h n;have hp:=h.thr hn;have hg:getS U (n:Int)=sv U n:=by exact abV
  rw[hg]at F';have H:=qh h;refine aj0 ?_;intro t2 LU;obtain⟨r,V⟩:=LE (fk c (ac P).length ⟨st,d,U⟩ n ⟨pc,0,b,z⟩);have mT:a6 c (ac P).length ⟨st,d,U⟩ n=⟨r.1,r.2.1,U.set n ⟨r.2.2,0,b,z⟩⟩:=by unfold a6;exact ack
  rw[<-V]at hD;rw[hU]at hp F';obtain⟨s1,d1,v⟩:=r;simp only at mT;refine ajU ?_;intro u0 u1 HX HS HP HD;clear h hp mT hg F' hD V hU hc;unfold aF at HS;cases v1:(v==10)<;>cases v2:(v==0);all_goals go_enter func389,ntmps389;go_wp2_with fail;refine ajb ?_;intro w1 b1 K1 T1;go_upto_region 2 with fail;obtain⟨sb,Kr⟩:=LE w1.heap.size;obtain⟨O,I⟩:=LE (w1.alloc (cells #[J pc,J 0,J b,J z] 113));rw[<-I,<-Kr];have Y:=qh (show av 335 B BC O a g X c P T st d U/\aa (SmS a g X) w O/\Blk O sb 113 #[J pc,J 0,J b,J z]/\sb∉SmS a g X from⟨by rw[I];exact(K1.o).below ((Below.refl _ _).alloc (Nat.le_refl _) _),by rw[I];exact T1.o.alloc _,by rw[I,Kr];exact Blk.new _ _ _,λk=>by have:=K1.o.ltsA _ k;omega⟩);clear I Kr K1 T1;have v0:O.cell? sb=some (J pc):=Y.o.2.2.1.cell 0;have va:Z O sb 1 (J 0):=Y.o.2.2.1.cell 1;go_wp2_with fail;refine Op (HD.o _ Y.o.1) λw3 k3=>?_;have K3:=qh k3.o.1;have T3:=qh (Y.o.2.1.trans k3.o.2)
  all_goals refine ajR ?_;intro e0 z0 d6;have K4:=qh (K3.o.put0 HP.o (p':=(⟨v,0,b,z⟩:Sp)) (u:= J v) rfl);go_wp2;go_ret;rw[HX.o];first|exact au.stay (K4.o) (T3.o.trans (dW _ _)) rfl|exact au.put HP.o (K4.o) (T3.o.trans (dW _ _)) rfl ahO
def D4(h:av 335 B BC w a g X c P T st d U)(n:Nat)(H:n<T.length)(hc:io (sv U n) (sv st.T n))(Y:st.s.ops+1<=1000000000000)(hN:1<=(ac P).length)(I:((sv U n).a=0->((sv U n).pc=9\/(sv U n).pc=6)->d.busy=true->d.at_<(ac P).length))(C:dc BB X.x c st):E 389 #[↑X.l,J n] w (au 335 B BC w a g X c P T U n (a6 c (ac P).length ⟨st,d,U⟩ n)):=by
  obtain⟨p,O⟩:=LE (sv U n)
  have JP:p.pc=0\/p.pc=10\/(p.a=1/\p.pc=1)\/(p.a=1/\p.pc=2)\/(p.a=1/\p.pc=11)\/(p.a=0/\p.pc=7)\/(p.a=0/\p.pc=5)\/(p.a=0/\p.pc=6)\/(p.a=0/\p.pc=8)\/(p.a=0/\p.pc=9)\/(p.a=0/\p.pc=12)\/(p.a=0/\p.pc=13):=by
    rw[<-O]at hc;unfold io at hc;rcases hc with⟨q1,_⟩|⟨q1,q2,_⟩|⟨q1,q2,_⟩|⟨q1,q2,_⟩|⟨q1,q2,_⟩
    all_goals omega
  have V:=I;rw[<-O]at V;obtain⟨pc,u,b,z⟩:=p;have H':(sv U n).pc=pc:=by rw[<-O]
  simp only at JP V;have ab:=h.nodeA H;rcases JP with rfl|rfl|⟨rfl,rfl⟩|⟨rfl,rfl⟩|⟨rfl,rfl⟩|⟨rfl,rfl⟩|⟨rfl,rfl⟩|⟨rfl,rfl⟩|⟨rfl,rfl⟩|⟨rfl,rfl⟩|⟨rfl,rfl⟩|⟨rfl,rfl⟩
  . exact xf h n H (.inl H')
  . exact xf h n H (.inr H')
  . exact mp h n H _ b z O.symm ahG (λW k=>BS k ab.1 Y)
  . exact mp h n H _ b z O.symm ahG (λW k=>BT k (c.node n) Y)
  . refine mp h n H _ b z O.symm ahG (λW k=>?_);have k9:=yG k ab.1 Y;rw[show 2*((c.node n:Nat):Int)+1+1=gaW (c.node n)by unfold gaW;omega]at k9;exact k9
  . exact fP h n H _ b z O.symm ahG (λW k=>zd k n H C Y)
  . exact fP h n H _ b z O.symm ahG (λW k=>zb k hN n Y)
  . exact fP h n H _ b z O.symm ahG (λW k=>zc k (V rfl (.inr rfl)) n Y)
  . exact fP h n H _ b z O.symm ahG (λW k=>ze k hN n Y)
  . exact fP h n H _ b z O.symm ahG (λW k=>zf k (V rfl (.inl rfl)) n Y)
  . exact fP h n H _ b z O.symm ahG (λW k=>vK k n H Y)
  . exact fP h n H _ b z O.symm ahG (λW k=>vO k n H C Y)
end
end
section
open Go.RowKit
section
variable{g:Nat}{X:SmX}{c:CoC}{st st':Co}{d d':Dr}{U:List Sp}{s':Ar}
def wX(h:av 337 B BC w a g X c P T st d U)(Y:st.s.ops+1<=1000000000000):E 405 #[↑X.l] w λe w'=>e= returned (bool (ldW st.s.W (nuFl (ac P).length)==0))/\av 337 B BC w' a g X c P T (onA st (af st.s (nuFl (ac P).length))) d U/\aa (SmS a g X) w w':=by
 have H:=qh h;clear h;obtain⟨q,V⟩:=LE (ldW st.s.W (nuFl (ac P).length));rw[<-V];have HQ:=qh V;clear V;have I:=qh H.o.drw;have hr:=qh (aD (I.o).gd.ar (nuFl (ac P).length) Y);rw[<-HQ.o]at hr;go_enter func405,ntmps405;go_wp2_with fail
 go_region_held3 (λW=>W.cell? X.l=some ↑a/\Z W X.l 4 (J (2*((ac P).length:Int)+1)))
  (first|exact⟨I.o.cs.1,I.o.cs.2.2.2.2.1⟩|exact⟨K1.o.cs.1,K1.o.cs.2.2.2.2.1⟩)
  (first
   |(go_at_call 173;go_loud (refine Op hr.o λw1 O=>?_);have K1:=qh (I.o.arT O.o.2 O.o.1);have T1:=qh ((aa.refl (SmS a g X) w).drew.trans (fo O.o.2))))
 exact acm
def DV(h:av 337 B BC w a g X c P T st d U)(n:Nat)(V:n<T.length)(hnd:nd<(ac P).length)(I:(ao P T T.length)[n]? =some ((nd:Nat):Int))(Y:st.s.ops+1<=1000000000000):E 404 #[↑X.l,J n,J 2] w (bY 337 B BC w a g X c P T (onA st (addA st.s (2*(nd:Int)+1) 1),d,3) U):=by have O:=qh (kq w X.b P T n V h.tb.f _ I);have l1:=h.cs.2.1;have hnd:=qh hnd;have H:=qh h;clear h I;go_enter func404,ntmps404;go_wp2_with fail;refine LT O.o ?_;exact acc
def DX(h:av 337 B BC w a g X c P T st d U)(n:Nat)(hn:n<T.length)(hnd:nd<(ac P).length)(JB:(ao P T T.length)[n]? =some ((nd:Nat):Int))(Y:st.s.ops+1<=1000000000000):E 404 #[↑X.l,J n,J 4] w (bY 337 B BC w a g X c P T (onA st (addA st.s (2*(nd:Int)+1+1) 1),d,1) U):=by exact acn
def BQ(h:av 337 B BC w a g X c P T st d U)(n:Nat)(hn:n<T.length)(hnd:nd<(ac P).length)(JB:(ao P T T.length)[n]? =some ((nd:Nat):Int))(Y:st.s.ops+1<=1000000000000):E 404 #[↑X.l,J n,J 11] w (bY 337 B BC w a g X c P T (onA st (addA st.s (2*(nd:Int)+1+1) 1),d,0) U):=by exact acn
def DU(h:av 337 B BC w a g X c P T st d U)(n:Nat)(V:n<T.length)(I:nd<(ac P).length)(JB:(ao P T T.length)[n]? =some ((nd:Nat):Int))(Y:st.s.ops+1<=1000000000000):E 404 #[↑X.l,J n,J 1] w (bY 337 B BC w a g X c P T (onA st (af st.s (nuFl (ac P).length)),d,if ldW st.s.W (nuFl (ac P).length)=0 then 2 else 1) U):=by
  have Lz:=qh (kq w X.b P T n V h.tb.f _ JB);have l1:=h.cs.2.1;have I:=qh I;have Ns:=wX h Y;obtain⟨q,hq⟩:=LE (ldW st.s.W (nuFl (ac P).length));rw[<-hq]at Ns ⊢;obtain⟨v,O⟩:∃v:Int,v=if q=0 then 2 else 1:=⟨_,rfl⟩
  exact aco
def DW(h:av 337 B BC w a g X c P T st d U)(n:Nat)(V:n<T.length)(I:nd<(ac P).length)(JB:(ao P T T.length)[n]? =some ((nd:Nat):Int))(Y:st.s.ops+1<=1000000000000):E 404 #[↑X.l,J n,J 3] w (bY 337 B BC w a g X c P T (onA st (af st.s (nuFl (ac P).length)),d,if ldW st.s.W (nuFl (ac P).length)=0 then 10 else 4) U):=by
  have Lz:=qh (kq w X.b P T n V h.tb.f _ JB);have l1:=h.cs.2.1;have I:=qh I;have Ns:=wX h Y;obtain⟨q,hq⟩:=LE (ldW st.s.W (nuFl (ac P).length));rw[<-hq]at Ns ⊢;obtain⟨v,O⟩:∃v:Int,v=if q=0 then 10 else 4:=⟨_,rfl⟩
  exact aco
def Cu(h:av 337 B BC w a g X c P T st d U)(n:Nat)(hn:n<T.length)(Y:st.s.ops+1<=1000000000000):E 403 #[↑X.l,J n,J 5] w (bY 337 B BC w a g X c P T (bz c (onA st (addA st.s (nuFl (ac P).length) 1)) n,d,7) U):=by
 have JG:n<X.x.n:=by rw[h.nT.1];exact hn
 have H:=qh h;clear h;go_enter func403,ntmps403;have K0:=H;have T0:=qh (aa.refl (SmS a g X) w);have I:=qh K0.o.drw;have hr:=qh (ii (I.o).gd.ar (nuFl (ac P).length) (1) Y);obtain⟨va,V⟩:∃va:Int,va=(if inR st.s.W (nuFl (ac P).length)then IntKind.i64.wrap (ldW st.s.W (nuFl (ac P).length)+(1))else 0):=⟨_,rfl⟩;rw[<-V]at hr;clear V;go_wp2_with fail
 go_region_held3 (λW=>W.cell? X.l=some ↑a/\Z W X.l 4 (J (2*((ac P).length:Int)+1)))
  (first|exact⟨I.o.cs.1,I.o.cs.2.2.2.2.1⟩|exact⟨K1.o.cs.1,K1.o.cs.2.2.2.2.1⟩)
  (first
   |(go_at_call 298;go_loud (refine Op hr.o λw1 O=>?_);have K1:=qh (I.o.arT O.o.2 O.o.1);have T1:=qh (T0.o.drew.trans (fo O.o.2))))
 have l5:=K1.o.cs.2.2.2.2.2.1;go_wp2_with fail;refine Op (rQ K1.o.co n JG) λw2 k3=>?_;exact acp
def y9(h:av 337 B BC w a g X c P T st d U)(n:Nat)(hn:n<T.length)(Y:st.s.ops+1<=1000000000000):E 403 #[↑X.l,J n,J 12] w (bY 337 B BC w a g X c P T (az (onA st (addA st.s (nuFl (ac P).length) (-1))) n,d,13) U):=by
 have JG:n<X.x.n:=by rw[h.nT.1];exact hn
 have H:=qh h;clear h;go_enter func403,ntmps403;have K0:=H;have T0:=qh (aa.refl (SmS a g X) w);have I:=qh K0.o.drw;have hr:=qh (ii (I.o).gd.ar (nuFl (ac P).length) (-1) Y);obtain⟨va,V⟩:∃va:Int,va=(if inR st.s.W (nuFl (ac P).length)then IntKind.i64.wrap (ldW st.s.W (nuFl (ac P).length)+(-1))else 0):=⟨_,rfl⟩;rw[<-V]at hr;clear V;go_wp2_with fail
 go_region_held3 (λW=>W.cell? X.l=some ↑a/\Z W X.l 4 (J (2*((ac P).length:Int)+1)))
  (first|exact⟨I.o.cs.1,I.o.cs.2.2.2.2.1⟩|exact⟨K1.o.cs.1,K1.o.cs.2.2.2.2.1⟩)
  (first
   |(go_at_call 298;go_loud (refine Op hr.o λw1 O=>?_);have K1:=qh (I.o.arT O.o.2 O.o.1);have T1:=qh (T0.o.drew.trans (fo O.o.2))))
 exact aci
def za(h:av 337 B BC w a g X c P T st d U)(n:Nat)(hn:n<T.length)(C:dc BB X.x c st)(Y:st.s.ops+1<=1000000000000):E 403 #[↑X.l,J n,J 13] w (bY 337 B BC w a g X c P T (aj c st n,d,if bo (sv st.T n) (sv (aj c st n).T n)then 0 else 13) U):=by
 have JG:n<X.x.n:=by rw[h.nT.1];exact hn
 have I:=mn h.co C n JG;obtain⟨q,V⟩:=LE (bo (sv st.T n) (sv (aj c st n).T n));rw[<-V]at I ⊢;have HS:=qh I;have l5:=h.cs.2.2.2.2.2.1;have H:=qh h;clear h V I;cases q;all_goals go_enter func403,ntmps403;go_wp2_with fail;refine Op HS.o λw1 O=>?_;have K1:=qh (H.o.coT O.o.2 O.o.1);have T1:=qh (gZ (X:=X) O.o.2);go_wp2;go_ret;exact⟨rfl,K1.o,T1.o⟩
def Cv(h:av 337 B BC w a g X c P T st d U)(n:Nat)(hn:n<T.length)(C:dc BB X.x c st)(hN:1<=(ac P).length)(Y:st.s.ops+1<=1000000000000):E 403 #[↑X.l,J n,J 7] w (bY 337 B BC w a g X c P T (aj c st n,if bo (sv st.T n) (sv (aj c st n).T n)then dP d (ac P).length false else d,if bo (sv st.T n) (sv (aj c st n).T n)then 9 else 7) U):=by
 have JG:n<X.x.n:=by rw[h.nT.1];exact hn
 have O:=mn h.co C n JG;obtain⟨q,hq⟩:=LE (bo (sv st.T n) (sv (aj c st n).T n));rw[<-hq]at O ⊢;have V:=qh O;have l5:=h.cs.2.2.2.2.2.1;have H:=qh h;clear h hq O;cases q;.go_enter func403,ntmps403;go_wp2_with fail;refine Op V.o λw1 I=>?_;have K1:=qh (H.o.coT I.o.2 I.o.1);have T1:=qh (gZ (X:=X) I.o.2);exact acm
 .go_enter func403,ntmps403;go_wp2_with fail;refine Op V.o λw1 I=>?_;have K1:=qh (H.o.coT I.o.2 I.o.1);have T1:=qh (gZ (X:=X) I.o.2);exact ace
def Cw(h:av 337 B BC w a g X c P T st d U)(I:d.busy=true->d.at_<(ac P).length)(n:Nat)(Y:st.s.ops+1<=1000000000000):E 403 #[↑X.l,J n,J 9] w (bY 337 B BC w a g X c P T (onA st (ai st.s d).1,(ai st.s d).2.1,if (ai st.s d).2.2=true then 10 else 9) U):=by obtain⟨r,V⟩:=LE (ai st.s d);have O:=mL h.gd I Y;rw[<-V]at O ⊢;obtain⟨s1,d1,q⟩:=r;simp only at O ⊢;have HD:=qh O;have H:=qh h;clear h V I O;cases q;all_goals go_enter func403,ntmps403;have d3:=H.o.cs.2.2.2.1;go_wp2_with fail;refine Op HD.o λw1 k4=>?_;have K1:=qh (H.o.gdT k4.o.2 k4.o.1);have T1:=qh (jk (X:=X) k4.o.2);go_wp2;go_ret;exact⟨rfl,K1.o,T1.o⟩
end
end
section
open Go.RowKit
section
variable{g:Nat}{X:SmX}{c:CoC}{st st':Co}{d d':Dr}{U:List Sp}{s':Ar}
def xh(h:av 337 B BC w a g X c P T st d U)(n:Nat)(hn:n<T.length)(hc:(sv U n).pc=0\/(sv U n).pc=10):E 400 #[↑X.l,J n] w (au 337 B BC w a g X c P T U n (bh c (ac P).length ⟨st,d,U⟩ n)):=by
 have JL:=aM;have I:=oU h n;have hp:=h.thr hn;have hg:getS U (n:Int)=sv U n:=by exact abV
 rw[hg]at I;have H:=qh h;refine aj0 ?_;intro t2 LU;have mT:bh c (ac P).length ⟨st,d,U⟩ n=⟨st,d,U⟩:=by unfold bh;rw[if_pos hc]
 obtain⟨p,Y⟩:=LE (sv U n);rw[<-Y]at hc I;have V:=qh I;have HX:=qh mT;clear h hp Y mT hg I;obtain⟨pc,u,b,z⟩:=p;simp only at hc;unfold aF at V;rcases hc with rfl|rfl
 all_goals go_enter func400,ntmps400;go_wp2_with fail;refine Op V.o λw1 O=>?_;go_wp2;go_ret;rw[HX.o];first|exact au.stay ((H.o.below O.o).below ((Below.refl _ _).alloc (Nat.le_refl _) _)) ((aa.of_below O.o).alloc _) rfl|exact au.put HP.o ((H.o.below O.o).below ((Below.refl _ _).alloc (Nat.le_refl _) _)) ((aa.of_below O.o).alloc _) rfl ahO
def i3(h:av 337 B BC w a g X c P T st d U)(n:Nat)(hn:n<T.length)(pc b z:Int)(hU:sv U n=⟨pc,1,b,z⟩)(hc:pc≠0/\pc≠10)(hD:∀W,av 337 B BC W a g X c P T st d U->E 404 #[↑X.l,J n,J pc] W (bY 337 B BC W a g X c P T (iC c (ac P).length ⟨st,d,U⟩ n ⟨pc,1,b,z⟩) U)):E 400 #[↑X.l,J n] w (au 337 B BC w a g X c P T U n (bh c (ac P).length ⟨st,d,U⟩ n)):=by
  have JL:=aM;have F':=oU h n;have hp:=h.thr hn;have hg:getS U (n:Int)=sv U n:=by exact abV
  rw[hg]at F';have H:=qh h;refine aj0 ?_;intro t2 LU;obtain⟨r,V⟩:=LE (iC c (ac P).length ⟨st,d,U⟩ n ⟨pc,1,b,z⟩);have mT:bh c (ac P).length ⟨st,d,U⟩ n=⟨r.1,r.2.1,U.set n ⟨r.2.2,1,b,z⟩⟩:=by unfold bh;exact ack
  rw[<-V]at hD;rw[hU]at hp F';obtain⟨s1,d1,v⟩:=r;simp only at mT;refine ajU ?_;intro u0 u1 HX HS HP HD;clear h hp mT hg F' hD V hU hc;unfold aF at HS;cases v1:(v==10)<;>cases v2:(v==0);all_goals go_enter func400,ntmps400;go_wp2_with fail;refine ajb ?_;intro w1 b1 K1 T1;go_upto_region 2 with fail;obtain⟨sb,Kr⟩:=LE w1.heap.size;obtain⟨O,I⟩:=LE (w1.alloc (cells #[J pc,J 1,J b,J z] 113));rw[<-I,<-Kr];have Y:=qh (show av 337 B BC O a g X c P T st d U/\aa (SmS a g X) w O/\Blk O sb 113 #[J pc,J 1,J b,J z]/\sb∉SmS a g X from⟨by rw[I];exact(K1.o).below ((Below.refl _ _).alloc (Nat.le_refl _) _),by rw[I];exact T1.o.alloc _,by rw[I,Kr];exact Blk.new _ _ _,λk=>by have:=K1.o.ltsA _ k;omega⟩);clear I Kr K1 T1;have v0:O.cell? sb=some (J pc):=Y.o.2.2.1.cell 0;have va:Z O sb 1 (J 1):=Y.o.2.2.1.cell 1;go_wp2_with fail;refine Op (HD.o _ Y.o.1) λw3 k3=>?_;have K3:=qh k3.o.1;have T3:=qh (Y.o.2.1.trans k3.o.2)
  all_goals refine ajR ?_;intro e0 z0 d6;have K4:=qh (K3.o.put0 HP.o (p':=(⟨v,1,b,z⟩:Sp)) (u:= J v) rfl);go_wp2;go_ret;rw[HX.o];first|exact au.stay (K4.o) (T3.o.trans (dW _ _)) rfl|exact au.put HP.o (K4.o) (T3.o.trans (dW _ _)) rfl ahO
def i2(h:av 337 B BC w a g X c P T st d U)(n:Nat)(hn:n<T.length)(pc b z:Int)(hU:sv U n=⟨pc,0,b,z⟩)(hc:pc≠0/\pc≠10)(hD:∀W,av 337 B BC W a g X c P T st d U->E 403 #[↑X.l,J n,J pc] W (bY 337 B BC W a g X c P T (iC c (ac P).length ⟨st,d,U⟩ n ⟨pc,0,b,z⟩) U)):E 400 #[↑X.l,J n] w (au 337 B BC w a g X c P T U n (bh c (ac P).length ⟨st,d,U⟩ n)):=by
  have JL:=aM;have F':=oU h n;have hp:=h.thr hn;have hg:getS U (n:Int)=sv U n:=by exact abV
  rw[hg]at F';have H:=qh h;refine aj0 ?_;intro t2 LU;obtain⟨r,V⟩:=LE (iC c (ac P).length ⟨st,d,U⟩ n ⟨pc,0,b,z⟩);have mT:bh c (ac P).length ⟨st,d,U⟩ n=⟨r.1,r.2.1,U.set n ⟨r.2.2,0,b,z⟩⟩:=by unfold bh;exact ack
  rw[<-V]at hD;rw[hU]at hp F';obtain⟨s1,d1,v⟩:=r;simp only at mT;refine ajU ?_;intro u0 u1 HX HS HP HD;clear h hp mT hg F' hD V hU hc;unfold aF at HS;cases v1:(v==10)<;>cases v2:(v==0);all_goals go_enter func400,ntmps400;go_wp2_with fail;refine ajb ?_;intro w1 b1 K1 T1;go_upto_region 2 with fail;obtain⟨sb,Kr⟩:=LE w1.heap.size;obtain⟨O,I⟩:=LE (w1.alloc (cells #[J pc,J 0,J b,J z] 113));rw[<-I,<-Kr];have Y:=qh (show av 337 B BC O a g X c P T st d U/\aa (SmS a g X) w O/\Blk O sb 113 #[J pc,J 0,J b,J z]/\sb∉SmS a g X from⟨by rw[I];exact(K1.o).below ((Below.refl _ _).alloc (Nat.le_refl _) _),by rw[I];exact T1.o.alloc _,by rw[I,Kr];exact Blk.new _ _ _,λk=>by have:=K1.o.ltsA _ k;omega⟩);clear I Kr K1 T1;have v0:O.cell? sb=some (J pc):=Y.o.2.2.1.cell 0;have va:Z O sb 1 (J 0):=Y.o.2.2.1.cell 1;go_wp2_with fail;refine Op (HD.o _ Y.o.1) λw3 k3=>?_;have K3:=qh k3.o.1;have T3:=qh (Y.o.2.1.trans k3.o.2)
  all_goals refine ajR ?_;intro e0 z0 d6;have K4:=qh (K3.o.put0 HP.o (p':=(⟨v,0,b,z⟩:Sp)) (u:= J v) rfl);go_wp2;go_ret;rw[HX.o];first|exact au.stay (K4.o) (T3.o.trans (dW _ _)) rfl|exact au.put HP.o (K4.o) (T3.o.trans (dW _ _)) rfl ahO
def D5(h:av 337 B BC w a g X c P T st d U)(n:Nat)(H:n<T.length)(hc:gU (sv U n) (sv st.T n))(Y:st.s.ops+1<=1000000000000)(hN:1<=(ac P).length)(I:((sv U n).a=0->(sv U n).pc=9->d.busy=true->d.at_<(ac P).length))(C:dc BB X.x c st):E 400 #[↑X.l,J n] w (au 337 B BC w a g X c P T U n (bh c (ac P).length ⟨st,d,U⟩ n)):=by
  obtain⟨p,V⟩:=LE (sv U n)
  have JP:p.pc=0\/p.pc=10\/(p.a=1/\p.pc=1)\/(p.a=1/\p.pc=2)\/(p.a=1/\p.pc=3)\/(p.a=1/\p.pc=4)\/(p.a=1/\p.pc=11)\/(p.a=0/\p.pc=5)\/(p.a=0/\p.pc=7)\/(p.a=0/\p.pc=9)\/(p.a=0/\p.pc=12)\/(p.a=0/\p.pc=13):=by
    rw[<-V]at hc;unfold gU at hc;rcases hc with⟨q1,_⟩|⟨q1,q2,_⟩|⟨q1,q2,_⟩|⟨q1,q2,_⟩|⟨q1,q2,_⟩|⟨q1,q2,_⟩
    all_goals omega
  have ab:=I;rw[<-V]at ab;obtain⟨pc,u,b,z⟩:=p;have H':(sv U n).pc=pc:=by rw[<-V]
  simp only at JP ab;have O:=h.nodeA H;rcases JP with rfl|rfl|⟨rfl,rfl⟩|⟨rfl,rfl⟩|⟨rfl,rfl⟩|⟨rfl,rfl⟩|⟨rfl,rfl⟩|⟨rfl,rfl⟩|⟨rfl,rfl⟩|⟨rfl,rfl⟩|⟨rfl,rfl⟩|⟨rfl,rfl⟩
  . exact xh h n H (.inl H')
  . exact xh h n H (.inr H')
  . exact i3 h n H _ b z V.symm ahG (λW k=>DU k n H O.1 O.2 Y)
  . exact i3 h n H _ b z V.symm ahG (λW k=>DV k n H O.1 O.2 Y)
  . exact i3 h n H _ b z V.symm ahG (λW k=>DW k n H O.1 O.2 Y)
  . refine i3 h n H _ b z V.symm ahG (λW k=>?_);have k9:=DX k n H O.1 O.2 Y;rw[show 2*((c.node n:Nat):Int)+1+1=gaW (c.node n)by unfold gaW;omega]at k9;exact k9
  . refine i3 h n H _ b z V.symm ahG (λW k=>?_);have k9:=BQ k n H O.1 O.2 Y;rw[show 2*((c.node n:Nat):Int)+1+1=gaW (c.node n)by unfold gaW;omega]at k9;exact k9
  . exact i2 h n H _ b z V.symm ahG (λW k=>Cu k n H Y)
  . exact i2 h n H _ b z V.symm ahG (λW k=>Cv k n H C hN Y)
  . exact i2 h n H _ b z V.symm ahG (λW k=>Cw k (ab rfl rfl) n Y)
  . exact i2 h n H _ b z V.symm ahG (λW k=>y9 k n H Y)
  . exact i2 h n H _ b z V.symm ahG (λW k=>za k n H C Y)
end
end
section
open Go
section
variable{c:CoC}{x:Nu}{B:Int}
def lj{p:Sp}(h:¬(p.a=1/\(p.pc=2\/p.pc=10\/p.pc=11))):fz p=false:=decide_eq_false h
def DS{p:Sp}(h:p.a=1/\(p.pc=2\/p.pc=10\/p.pc=11)):fz p=true:=decide_eq_true h
def RsI.ask(h:RsI c n N ml x)(y:cH c n N ml){i:Nat}(hi:i<n)(r:Bool):RsI c n N ml (cE c x i r):=by
 unfold cE;split
 .rename_i h0;have Y:=h.k i hi;have O:(sv x.st.T i).pc=0:=by unfold io at Y;omega
  have I:fz (sv x.U i)=false:=lj ahE;split;.exact h.upd (p':=⟨1,1,0,0⟩) hi h.m (λ_ _=>rfl) (.inr (.inl ⟨rfl,.inl rfl,O⟩)) (dE h hi (by rw[I];rfl) (λ_ _=>rfl)) (λj H _ hw=>h.fl j H hw) (λhw=>by unfold gE at hw;simp at hw) (λ_ _=>Int.le_refl _) (λV=>by unfold dA at V;simp at V) (λ_ _ _ _ _=>rfl) (λe=>by simp at e) (λe=>by simp at e)
  .have hm:=h.m.ask y hi;have hs:=gA c x.st i;have hT:=(ij (c:=c) (j:=i) h.m.v hi).2 O;exact h.upd (p':=⟨7,0,0,0⟩) hi hm (λj H=>(ij (c:=c) h.m.v hi).1 H) (.inr (.inr (.inl ⟨rfl,rfl,by omega,by omega⟩))) (by rw[hs];exact dE h hi (by rw[I];rfl) (λ_ _=>rfl)) (λj H _ hw=>by rw[hs];exact h.fl j H hw) (λhw=>by unfold gE at hw;simp at hw) (λa _=>by rw[hs];exact Int.le_refl _) (λV=>by unfold dA at V;simp at V) (λ_ _ _ _ _=>rfl) (λ_ e=>by simp at e) (λ_ e=>by simp at e)
 .exact h
def RsI.leave(h:RsI c n N ml x){i:Nat}(hi:i<n):RsI c n N ml (aE x i):=by
 unfold aE;split
 .rename_i h10;have hk:=h.k i hi;obtain⟨p,hp⟩:=LE (sv x.U i);have O:=h.fl i hi;rw[<-hp]at hk h10 O ⊢;have Y:(p.a=1/\(sv x.st.T i).pc=0)\/(p.a=0/\(sv x.st.T i).pc=10):=by unfold io at hk;omega
  obtain⟨pc,u,b,z⟩:=p;simp only at h10 Y;subst h10;rcases Y with⟨rfl,I⟩|⟨rfl,I⟩
  .exact h.upd (p':=⟨11,1,b,z⟩) hi h.m (λ_ _=>rfl) (.inr (.inl ⟨rfl,.inr (.inr (.inr rfl)),I⟩)) (dE h hi ahK (λ_ _=>rfl)) (λj H _ hw=>h.fl j H hw) (λhw=>by unfold gE at hw;simp at hw) (λ_ _=>Int.le_refl _) (λV=> .inl (by rw[<-hp];exact⟨rfl,.inl rfl⟩)) (λ_ _ _ _ _=>rfl) (λe=>by simp at e) (λe=>by simp at e)
  .exact h.upd (p':=⟨12,0,b,z⟩) hi h.m (λ_ _=>rfl) (.inr (.inr (.inr (.inl ⟨rfl,.inr (.inr (.inr (.inr (.inr rfl)))),I⟩)))) (dE h hi ahK (λ_ _=>rfl)) (λj H _ hw=>h.fl j H hw) (λ_=>O ⟨rfl,.inr (.inr (.inl rfl))⟩) (λ_ _=>Int.le_refl _) (λV=>by unfold dA at V;simp at V) (λ_ _ _ _ _=>rfl) (λ_ e=>by simp at e) (λ_ e=>by simp at e)
 .exact h
def kr{P Q:Prop}(q:Q)(h:Kq Q->P:=by
    intro q_
    have hn:=(y.nd i hi).1
    have JB:∀j,j<n->c.node j<N:=λj hj=>(y.nd j hj).1
    have hk:=h.k i hi
    have C':=h.fl i hi
    have Kd:=h.dr i hi
    have oth:(sv x.st.T i).pc=10->∀j,j<n->j≠i->¬gE (sv x.U j):=λht j hj e hw=>e (h.one y hj hi (IT (h.k j hj) hw) ht)
    have Kl:(sv x.st.T i).pc=10->∀j,j<n->j≠i->(sv x.U j).a=0->(sv x.U j).pc=9->False:=λht j hj e h0 h9=>oth ht j hj e ⟨h0,.inr (.inl h9)⟩
    have bA:=hB.w.ld ahE (gaA (c.node i))
    have bW:=hB.w.ld ahE (gaW (c.node i))
    refine ajh ?_
    intro wA wW
    have lA:=qS h y l (z:=gaA (c.node i)) ⟨(eO hn).1,by have:=(eO hn).2;omega⟩ (ldW x.st.s.W (gaA (c.node i))+1) (s':=addA x.st.s (gaA (c.node i)) 1) (by rw[dT,wA])
    have lW:=qS h y l (z:=gaW (c.node i)) ⟨(bD hn).1,by have:=(bD hn).2;omega⟩ (ldW x.st.s.W (gaW (c.node i))+1) (s':=addA x.st.s (gaW (c.node i)) 1) (by rw[dT,wW])
    have lF:=λv=>qS h y l (z:=nuFl N) ⟨by unfold nuFl;omega,Int.le_refl _⟩ v (s':=ae x.st.s (nuFl N) v) (aw _ _ _)
    refine ai4 ?_
    intro fA fW HA
    have HW:∀a,a<N->ldW x.st.s.W (gaW a)<=ldW (addA x.st.s (gaW (c.node i)) 1).W (gaW a):=λa _=>by
      exact abX
    refine ajg ?_
    intro HF SF mS lS Js tS aS
    unfold a6
    rw[<-hp]
    rw[<-hp]at hk C' Kd
    rw[if_neg ahF]
    revert hn JB hk C' Kd oth Kl bA bW wA wW lA lW lF fA fW HA HW HF SF mS lS Js tS aS
    exact q_.o):P:=h ⟨q⟩
def RsI.s1(h:RsI c n N ml x)(y:cH c n N ml)(l:NuL c N x.st.s.W)(hB:CoB c B x.st)(H:1100<=B)(I:B<=1000000000000){i:Nat}(hi:i<n)(b z:Int)(hp:(⟨1,1,b,z⟩:Sp)=sv x.U i)(ht:(sv x.st.T i).pc=0):RsI c n N ml (a6 c N x i):=by refine kr ?_;intro hn JB hk C' Kd oth Kl bA bW wA wW lA lW lF fA fW HA HW HF SF mS lS Js tS aS;show RsI c n N ml ⟨onA x.st (addA x.st.s (gaA (c.node i)) 1),x.d,x.U.set i ⟨2,1,b,z⟩⟩;exact h.upd (p':=⟨2,1,b,z⟩) hi lA.2 (λ_ _=>rfl) (.inr (.inl ⟨rfl,.inr (.inl rfl),ht⟩)) (GG h JB hi ahK rfl lA.1) (λj hj _ hw=>by rw[show ldW (onA x.st (addA x.st.s (gaA (c.node i)) 1)).s.W (nuFl N)=_ from fA];exact h.fl j hj hw) (λhw=>by unfold gE at hw;simp at hw) HA (λV=>by unfold dA at V;simp at V) (λ_ _ _ _ _=>rfl) (λe=>by simp at e) (λe=>by simp at e)
def RsI.s2(h:RsI c n N ml x)(y:cH c n N ml)(l:NuL c N x.st.s.W)(hB:CoB c B x.st)(I:1100<=B)(O:B<=1000000000000){i:Nat}(hi:i<n)(b z:Int)(hp:(⟨2,1,b,z⟩:Sp)=sv x.U i)(ht:(sv x.st.T i).pc=0):RsI c n N ml (a6 c N x i):=by
 refine kr ?_;intro hn JB hk C' Kd oth Kl bA bW wA wW lA lW lF fA fW HA HW HF SF mS lS Js tS aS;have e:(af x.st.s (nuFl N)).W=x.st.s.W:=aP _ _;show RsI c n N ml ⟨onA x.st (af x.st.s (nuFl N)),x.d,x.U.set i ⟨if ldW x.st.s.W (nuFl N)=0 then 10 else 2,1,b,z⟩⟩;by_cases H:ldW x.st.s.W (nuFl N)=0;.rw[if_pos H];exact h.upd (p':=⟨10,1,b,z⟩) hi (mV h y e) (λ_ _=>rfl) (.inr (.inl ⟨rfl,.inr (.inr (.inl rfl)),ht⟩)) (dE h hi ahK (λq _=>by show ldW (af _ _).W q=_;rw[e])) (λj hj _ hw=>by show ldW (af _ _).W _≠0;rw[e];exact h.fl j hj hw) (λhw=>by unfold gE at hw;simp at hw) (λa _=>by show _<=ldW (af _ _).W _;rw[e];exact Int.le_refl _) (λ_=> .inr (λj hj _ hw=>h.fl j hj hw H)) (λ_ _ _ _ _=>rfl) (λe=>by simp at e) (λe=>by simp at e)
 .rw[if_neg H];exact h.upd (p':=⟨2,1,b,z⟩) hi (mV h y e) (λ_ _=>rfl) (.inr (.inl ⟨rfl,.inr (.inl rfl),ht⟩)) (dE h hi ahR (λq _=>by show ldW (af _ _).W q=_;rw[e])) (λj hj _ hw=>by show ldW (af _ _).W _≠0;rw[e];exact h.fl j hj hw) (λhw=>by unfold gE at hw;simp at hw) (λa _=>by show _<=ldW (af _ _).W _;rw[e];exact Int.le_refl _) (λV=>by unfold dA at V;simp at V) (λ_ _ _ _ _=>rfl) (λe=>by simp at e) (λe=>by simp at e)
def RsI.s11(h:RsI c n N ml x)(y:cH c n N ml)(l:NuL c N x.st.s.W)(hB:CoB c B x.st)(H:1100<=B)(I:B<=1000000000000){i:Nat}(hi:i<n)(b z:Int)(hp:(⟨11,1,b,z⟩:Sp)=sv x.U i)(ht:(sv x.st.T i).pc=0):RsI c n N ml (a6 c N x i):=by refine kr ?_;intro hn JB hk C' Kd oth Kl bA bW wA wW lA lW lF fA fW HA HW HF SF mS lS Js tS aS;show RsI c n N ml ⟨onA x.st (addA x.st.s (gaW (c.node i)) 1),x.d,x.U.set i ⟨0,1,b,z⟩⟩;exact h.upd (p':=⟨0,1,b,z⟩) hi lW.2 (λ_ _=>rfl) (.inl ⟨rfl,ht⟩) (Fd h JB hi ahK rfl lW.1) (λj hj _ hw=>by rw[show ldW (onA x.st (addA x.st.s (gaW (c.node i)) 1)).s.W (nuFl N)=_ from fW];exact h.fl j hj hw) (λhw=>by unfold gE at hw;simp at hw) HW (λV=>by unfold dA at V;simp at V) (λ_ _ _ _ _=>rfl) (λe=>by simp at e) (λe=>by simp at e)
def RsI.s7(h:RsI c n N ml x)(y:cH c n N ml)(l:NuL c N x.st.s.W)(hB:CoB c B x.st)(I:1100<=B)(O:B<=1000000000000){i:Nat}(hi:i<n)(b z:Int)(hp:(⟨7,0,b,z⟩:Sp)=sv x.U i)(ht:0<(sv x.st.T i).pc/\(sv x.st.T i).pc<10):RsI c n N ml (a6 c N x i):=by
 refine kr ?_;intro hn JB hk C' Kd oth Kl bA bW wA wW lA lW lF fA fW HA HW HF SF mS lS Js tS aS;have a1:=aS.1 ht;show RsI c n N ml ⟨aj c x.st i,x.d,x.U.set i ⟨if bo (sv x.st.T i) (sv (aj c x.st i).T i)then 8 else 7,0,b,z⟩⟩;rw[a1.2];by_cases H:(sv (aj c x.st i).T i).pc=10;.rw[decide_eq_true H];exact h.upd (p':=⟨8,0,b,z⟩) hi mS tS (.inr (.inr (.inr (.inl ⟨rfl,.inr (.inr (.inl rfl)),by omega⟩)))) (dE h hi ahK (λq hq=>Js q ahE)) (λj hj _ hw=>by rw[Js _ (Int.le_refl _)];exact h.fl j hj hw) (λhw=>by unfold gE at hw;simp at hw) (λa ha=>by rw[Js _ ahM];exact Int.le_refl _) (λV=>by unfold dA at V;simp at V) (λ_ _ _ _ _=>rfl) (λ_ e=>by simp at e) (λ_ e=>by simp at e)
 .rw[decide_eq_false H];have Y:=a1.1;exact h.upd (p':=⟨7,0,b,z⟩) hi mS tS (.inr (.inr (.inl ⟨rfl,rfl,by omega,by omega⟩))) (dE h hi ahR (λq hq=>Js q ahE)) (λj hj _ hw=>by rw[Js _ (Int.le_refl _)];exact h.fl j hj hw) (λhw=>by unfold gE at hw;simp at hw) (λa ha=>by rw[Js _ ahM];exact Int.le_refl _) (λV=>by unfold dA at V;simp at V) (λ_ _ _ _ _=>rfl) (λ_ e=>by simp at e) (λ_ e=>by simp at e)
def RsI.s5(h:RsI c n N ml x)(y:cH c n N ml)(l:NuL c N x.st.s.W)(hB:CoB c B x.st)(H:1100<=B)(I:B<=1000000000000){i:Nat}(hi:i<n)(b z:Int)(hp:(⟨5,0,b,z⟩:Sp)=sv x.U i)(ht:(sv x.st.T i).pc=10):RsI c n N ml (a6 c N x i):=by refine kr ?_;intro hn JB hk C' Kd oth Kl bA bW wA wW lA lW lF fA fW HA HW HF SF mS lS Js tS aS;show RsI c n N ml ⟨onA x.st (ae x.st.s (nuFl N) 0),dP x.d N false,x.U.set i ⟨6,0,b,z⟩⟩;exact h.upd (p':=⟨6,0,b,z⟩) hi (lF 0).2 (λ_ _=>rfl) (.inr (.inr (.inr (.inl ⟨rfl,.inr (.inl rfl),ht⟩)))) (dE h hi ahK (SF 0)) (λj hj e hw=>absurd hw (oth ht j hj e)) (λhw=>by unfold gE at hw;simp at hw) (HF 0) (λV=>by unfold dA at V;simp at V) (λj hj e h0 h9=>(Kl ht j hj e h0 h9).elim) (λ_ e=>by simp at e) (λ_ e=>by simp at e)
def RsI.s6(h:RsI c n N ml x)(y:cH c n N ml)(l:NuL c N x.st.s.W)(hB:CoB c B x.st)(Y:1100<=B)(JM:B<=1000000000000){i:Nat}(hi:i<n)(b z:Int)(hp:(⟨6,0,b,z⟩:Sp)=sv x.U i)(ht:(sv x.st.T i).pc=10):RsI c n N ml (a6 c N x i):=by
 refine kr ?_;intro hn JB hk C' Kd oth Kl bA bW wA wW lA lW lF fA fW HA HW HF SF mS lS Js tS aS;have I:=gQ x.st.s x.d;have go:∀(H:Int) (d':Dr),(H=6\/H=8)->RsI c n N ml ⟨onA x.st (ai x.st.s x.d).1,d',x.U.set i ⟨H,0,b,z⟩⟩:=λH d' O=>by refine h.upd (p':=⟨H,0,b,z⟩) hi (mV h y I) (λ_ _=>rfl) (by rcases O with rfl|rfl;exact .inr (.inr (.inr (.inl ⟨rfl,.inr (.inl rfl),ht⟩)));exact .inr (.inr (.inr (.inl ⟨rfl,.inr (.inr (.inl rfl)),ht⟩)))) (dE h hi ?_ (λq _=>by show ldW (ai _ _).1.W q=_;rw[I])) (λj hj _ hw=>by show ldW (ai _ _).1.W _≠0;rw[I];exact h.fl j hj hw) (λhw=>by unfold gE at hw;simp only at hw;omega) (λa _=>by show _<=ldW (ai _ _).1.W _;rw[I];exact Int.le_refl _) (λV=>by unfold dA at V;simp at V) (λj hj e h0 h9=>(Kl ht j hj e h0 h9).elim) (λ_ e=>by simp only at e;omega) (λ_ e=>by simp only at e;omega);rw[<-hp,lj ahF,lj ahF]
 show RsI c n N ml ⟨onA x.st (ai x.st.s x.d).1,(ai x.st.s x.d).2.1,x.U.set i ⟨if (ai x.st.s x.d).2.2=false then 6 else 8,0,b,z⟩⟩;exact go _ _ (by split<;>omega)
def RsI.s8(h:RsI c n N ml x)(y:cH c n N ml)(l:NuL c N x.st.s.W)(hB:CoB c B x.st)(H:1100<=B)(I:B<=1000000000000){i:Nat}(hi:i<n)(b z:Int)(hp:(⟨8,0,b,z⟩:Sp)=sv x.U i)(ht:(sv x.st.T i).pc=10):RsI c n N ml (a6 c N x i):=by
 refine kr ?_;intro hn JB hk C' Kd oth Kl bA bW wA wW lA lW lF fA fW HA HW HF SF mS lS Js tS aS;show RsI c n N ml ⟨onA x.st (ae x.st.s (nuFl N) 1),dP x.d N true,x.U.set i ⟨9,0,b,z⟩⟩;have hN:1<=N:=by omega
 refine h.upd (p':=⟨9,0,b,z⟩) hi (lF 1).2 (λ_ _=>rfl) (.inr (.inr (.inr (.inl ⟨rfl,.inr (.inr (.inr (.inl rfl))),ht⟩)))) (dE h hi ahK (SF 1)) (λj hj e hw=>absurd hw (oth ht j hj e)) (λ_=>by show ldW (ae _ _ _).W _≠0;rw[(lF 1).1,if_pos rfl];decide) (HF 1) (λV=>by unfold dA at V;simp at V) (λj hj e h0 h9=>(Kl ht j hj e h0 h9).elim) (λ_ _=>?_) (λ_ e=>by simp at e);exact⟨⟨rfl,rfl,hN,rfl⟩,λe=>by simp[dP]at e,λj hj _=>Nat.zero_le _⟩
def RsI.s9(h:RsI c n N ml x)(y:cH c n N ml)(l:NuL c N x.st.s.W)(hB:CoB c B x.st)(JJ:1100<=B)(JM:B<=1000000000000){i:Nat}(hi:i<n)(b z:Int)(hp:(⟨9,0,b,z⟩:Sp)=sv x.U i)(ht:(sv x.st.T i).pc=10):RsI c n N ml (a6 c N x i):=by
 refine kr ?_;intro hn JB hk C' Kd oth Kl bA bW wA wW lA lW lF fA fW HA HW HF SF mS lS Js tS aS;obtain⟨⟨q1,Y,q3,q4⟩,q5,q6⟩:=Kd rfl rfl;have Mc:=C' ⟨rfl,.inr (.inl rfl)⟩;have I:=gQ x.st.s x.d;have hs:=svS (show i<x.U.length by rw[h.lU];exact hi)
 have nr:∀H j,dA (sv (x.U.set i ⟨H,0,b,z⟩) j)->j≠i/\dA (sv x.U j):=λH j V=>by
  rw[hs]at V;split at V;.unfold dA at V;simp at V
  .rename_i e;exact⟨e,V⟩
 have go:∀(H:Int) (d':Dr),(H=9\/H=10\/H=5)->(H=9->zk c n N d' x.st.s.W (x.U.set i ⟨H,0,b,z⟩))->(H=10->∀j,j<n->j≠i->¬dA (sv x.U j))->RsI c n N ml ⟨onA x.st (ai x.st.s x.d).1,d',x.U.set i ⟨H,0,b,z⟩⟩:=λH d' H' o9 Qx=>by
  refine h.upd (p':=⟨H,0,b,z⟩) hi (mV h y I) (λ_ _=>rfl) (by rcases H' with rfl|rfl|rfl;exact .inr (.inr (.inr (.inl ⟨rfl,.inr (.inr (.inr (.inl rfl))),ht⟩)));exact .inr (.inr (.inr (.inl ⟨rfl,.inr (.inr (.inr (.inr (.inl rfl)))),ht⟩)));exact .inr (.inr (.inr (.inl ⟨rfl,.inl rfl,ht⟩)))) (dE h hi ?_ (λq _=>by show ldW (ai _ _).1.W q=_;rw[I])) (λj hj _ hw=>by show ldW (ai _ _).1.W _≠0;rw[I];exact h.fl j hj hw) (λ_=>by show ldW (ai _ _).1.W _≠0;rw[I];exact Mc) (λa _=>by show _<=ldW (ai _ _).1.W _;rw[I];exact Int.le_refl _) (λV=>by unfold dA at V;simp at V) (λj hj e h0 h9=>(Kl ht j hj e h0 h9).elim) (λ_ h9=>?_) (λ_ h10=>Qx h10);.rw[<-hp,lj ahF,lj ahF]
  .show zk c n N d' (ai _ _).1.W _;rw[I];exact o9 h9
 show RsI c n N ml ⟨onA x.st (ai x.st.s x.d).1,(ai x.st.s x.d).2.1,x.U.set i ⟨if (ai x.st.s x.d).2.2=false then 9 else if (9:Int)=6 then 8 else if (ai x.st.s x.d).2.1.clear=true then 10 else 5,0,b,z⟩⟩;by_cases MV:x.d.second=true
 .have e1:ai x.st.s x.d=(af x.st.s (gaA x.d.at_),dN x.st.s x.d):=by unfold ai;rw[q1,MV];rfl
  have e2:(ai x.st.s x.d).2=dN x.st.s x.d:=by rw[e1]
  rw[e2];unfold dN;by_cases O:ldW x.st.s.W (gaA x.d.at_)=x.d.o
  .rw[if_neg (by simpa using O)];have hg:=h.g x.d.at_ q3;have VF:=q5 MV;have Vc:gN c n x.U x.d.at_=0:=by omega
   have MA:∀j,j<n->dA (sv x.U j)->c.node j≠x.d.at_:=λj hj V e=>by
    have:0<gN c n x.U x.d.at_:=jw (P:=λj=>decide (c.node j=x.d.at_)&&fz (sv x.U j)) hj (by
     simp only[Bool.and_eq_true,decide_eq_true_eq]
     exact⟨e,DS ⟨V.1,.inr V.2⟩⟩)
    omega
   by_cases NV:x.d.at_+1=x.d.lim;.rw[if_pos NV];refine go 10 _ ahE (λe=>by simp at e) (λ_ j hj e V=>?_);have h1:=q6 j hj V;have h2:=MA j hj V;have h3:=JB j hj;omega
   .rw[if_neg NV];refine go 9 _ ahE (λ_=>⟨⟨q1,Y,by show x.d.at_+1<N;omega,q4⟩,λe=>by simp at e,λj hj V=>?_⟩) (λe=>by simp at e);exact acq
  .rw[if_pos O,if_pos Y];exact go 5 _ ahE (λe=>by simp at e) (λe=>by simp at e)
 .refine ajI ?_;intro e1 e2;exact go 9 _ ahE (λ_=>⟨⟨q1,Y,q3,q4⟩,λ_=>Int.le_refl _,λj hj V=>q6 j hj (nr 9 j V).2⟩) (λe=>by simp at e)
def RsI.s12(h:RsI c n N ml x)(y:cH c n N ml)(l:NuL c N x.st.s.W)(hB:CoB c B x.st)(H:1100<=B)(I:B<=1000000000000){i:Nat}(hi:i<n)(b z:Int)(hp:(⟨12,0,b,z⟩:Sp)=sv x.U i)(ht:(sv x.st.T i).pc=10):RsI c n N ml (a6 c N x i):=by
 refine kr ?_;intro hn JB hk C' Kd oth Kl bA bW wA wW lA lW lF fA fW HA HW HF SF mS lS Js tS aS;show RsI c n N ml ⟨az (onA x.st (ae x.st.s (nuFl N) 0)) i,x.d,x.U.set i ⟨13,0,b,z⟩⟩;refine aj3 ?_;intro hm hs PX;refine h.upd (p':=⟨13,0,b,z⟩) hi hm (λj hj=>(eT (st:=onA x.st (ae x.st.s (nuFl N) 0)) (lF 0).2.v hi).1 hj) (.inr (.inr (.inr (.inr ⟨rfl,rfl,by omega⟩)))) ?_ (λj hj e hw=>absurd hw (oth ht j hj e)) (λhw=>by unfold gE at hw;simp at hw) (λa ha=>?_) (λV=>by unfold dA at V;simp at V) (λ_ _ _ _ _=>rfl) (λ_ e=>by simp at e) (λ_ e=>by simp at e);.show ∀a,a<N->ldW (az _ i).s.W _=_;rw[hs];exact dE h hi ahK (SF 0)
 .show _<=ldW (az _ i).s.W _;rw[hs];exact HF 0 a ha
def RsI.s13(h:RsI c n N ml x)(y:cH c n N ml)(l:NuL c N x.st.s.W)(hB:CoB c B x.st)(I:1100<=B)(O:B<=1000000000000){i:Nat}(hi:i<n)(b z:Int)(hp:(⟨13,0,b,z⟩:Sp)=sv x.U i)(ht:10<(sv x.st.T i).pc):RsI c n N ml (a6 c N x i):=by
 refine kr ?_;intro hn JB hk C' Kd oth Kl bA bW wA wW lA lW lF fA fW HA HW HF SF mS lS Js tS aS;have a1:=aS.2 ht;show RsI c n N ml ⟨aj c x.st i,x.d,x.U.set i ⟨if bo (sv x.st.T i) (sv (aj c x.st i).T i)then 0 else 13,0,b,z⟩⟩;rw[a1.2];by_cases H:(sv (aj c x.st i).T i).pc=0;.rw[decide_eq_true H];exact h.upd (p':=⟨0,0,b,z⟩) hi mS tS (.inl ⟨rfl,by omega⟩) (dE h hi ahK (λq hq=>Js q ahE)) (λj hj _ hw=>by rw[Js _ (Int.le_refl _)];exact h.fl j hj hw) (λhw=>by unfold gE at hw;simp at hw) (λa ha=>by rw[Js _ ahM];exact Int.le_refl _) (λV=>by unfold dA at V;simp at V) (λ_ _ _ _ _=>rfl) (λ_ e=>by simp at e) (λ_ e=>by simp at e)
 .rw[decide_eq_false H];have Y:=a1.1;exact h.upd (p':=⟨13,0,b,z⟩) hi mS tS (.inr (.inr (.inr (.inr ⟨rfl,rfl,by omega⟩)))) (dE h hi ahR (λq hq=>Js q ahE)) (λj hj _ hw=>by rw[Js _ (Int.le_refl _)];exact h.fl j hj hw) (λhw=>by unfold gE at hw;simp at hw) (λa ha=>by rw[Js _ ahM];exact Int.le_refl _) (λV=>by unfold dA at V;simp at V) (λ_ _ _ _ _=>rfl) (λ_ e=>by simp at e) (λ_ e=>by simp at e)
def RsI.step(h:RsI c n N ml x)(y:cH c n N ml)(l:NuL c N x.st.s.W)(hB:CoB c B x.st)(V:1100<=B)(Y:B<=1000000000000){i:Nat}(hi:i<n):RsI c n N ml (a6 c N x i):=by
 have hk:=h.k i hi;obtain⟨p,I⟩:=LE (sv x.U i);rw[<-I]at hk;by_cases O:p.pc=0\/p.pc=10;.unfold a6;rw[<-I,if_pos O];exact h
 unfold io at hk;obtain⟨pc,u,b,z⟩:=p;simp only at hk O;rcases hk with⟨q1,q2⟩|⟨rfl,q2,H⟩|⟨rfl,rfl,H⟩|⟨rfl,q2,H⟩|⟨rfl,rfl,H⟩
 .exact absurd (.inl q1) O
 .rcases q2 with rfl|rfl|rfl|rfl
  .exact h.s1 y l hB V Y hi b z I H
  .exact h.s2 y l hB V Y hi b z I H
  .exact absurd (.inr rfl) O
  .exact h.s11 y l hB V Y hi b z I H
 .exact h.s7 y l hB V Y hi b z I H
 .rcases q2 with rfl|rfl|rfl|rfl|rfl|rfl
  .exact h.s5 y l hB V Y hi b z I H
  .exact h.s6 y l hB V Y hi b z I H
  .exact h.s8 y l hB V Y hi b z I H
  .exact h.s9 y l hB V Y hi b z I H
  .exact absurd (.inr rfl) O
  .exact h.s12 y l hB V Y hi b z I H
 .exact h.s13 y l hB V Y hi b z I H
end
end
section
open Go Go.RowKit
section
variable{c:CoC}{x:Nu}{st:Co}{B:Int}{o:Nat}
def yH(h:bK c n L B o x.st)(k:kG c n N L)(hB:1100<=B)(V:B<=1000000000000){i:Nat}(hi:i<n)(p:Sp):bK c n L (B+4) (o+1) (fk c N x i p).1:=by
 refine ajm ?_;intro Ln NY JA;have Y:∀{st'},bK c n L (B+2) (o+1) st'->bK c n L (B+4) (o+1) (bz c st' i):=λ{st'} q=>by exact abY
 have I:∀{st'},bK c n L (B+2) (o+1) st'->bK c n L (B+4) (o+1) (az st' i):=λ{st'} q=>by exact abZ
 have H:bK c n L (B+4) (o+1) (onA x.st (ai x.st.s x.d).1):=h.on ahE ((h.bd.w.mono ahE).same (gQ _ _)) (uU _ _);unfold fk;split
 .split;.exact ab0
  split;.exact(NY _).mono ahE
  .exact ab0
 split;.exact ab1
 split;.exact I (JA _ _ ahE)
 split;.exact ab1
 split;.exact(JA _ _ ahE).mono ahE
 split;.exact(JA _ _ ahE).mono ahE
 .exact H
def yI(h:bK c n L B o x.st)(k:kG c n N L)(I:1100<=B)(H:B<=1000000000000){i:Nat}(hi:i<n):bK c n L (B+4) (o+1) (a6 c N x i).st:=by
 unfold a6;split;.exact h.up ahE ahE
 .exact yH h k I H hi _
structure RsS(c:CoC)(n N L:Nat)(ml:Nat->Nat)(B:Int)(x:Nu):Prop where
 i:RsI c n N ml x
 ok:bK c n L B x.st.s.ops x.st
 dok:x.d.busy=true->x.d.at_<N/\x.d.lim=N
def C3{d:Dr}(h:1<=N)(b:Bool):(dP d N b).busy=true->(dP d N b).at_<N/\(dP d N b).lim=N:=λ_=>⟨h,rfl⟩
def Ak{d:Dr}{s:Ar}(h:d.busy=true->d.at_<N/\d.lim=N):(ai s d).2.1.busy=true->(ai s d).2.1.at_<N/\(ai s d).2.1.lim=N:=by
 unfold ai;split
 .rename_i I;have:=h I;split
  .show(dN s d).1.busy=true->(dN s d).1.at_<N/\(dN s d).1.lim=N;unfold dN;split
   .split;.intro e;simp at e
    .intro _;exact this
   .split;.intro e;simp at e
    .intro _;simp only;omega
  .intro _;exact this
 .exact h
def Aj{c:CoC}{x:Nu}(h:x.d.busy=true->x.d.at_<N/\x.d.lim=N)(hN:1<=N)(i:Nat)(p:Sp):(fk c N x i p).2.1.busy=true->(fk c N x i p).2.1.at_<N/\(fk c N x i p).2.1.lim=N:=by unfold fk;(repeat' split)<;>first|exact h|exact C3 hN _|exact Ak h
def E4{c:CoC}{x:Nu}(h:x.d.busy=true->x.d.at_<N/\x.d.lim=N)(hN:1<=N)(i:Nat):(a6 c N x i).d.busy=true->(a6 c N x i).d.at_<N/\(a6 c N x i).d.lim=N:=by
 unfold a6;split;.exact h
 .exact Aj h hN _ _
def wT(c:CoC)(x:Nu)(i:Nat)(r:Bool):(cE c x i r).d=x.d:=by unfold cE;(repeat' split)<;>rfl
def yA(x:Nu)(i:Nat):(aE x i).d=x.d:=by unfold aE;split<;>rfl
def rM(c:CoC)(N:Nat)(x:Nu)(kd i:Int):Nu:=
 if okI x.U i then if kd=0 then a6 c N x i.toNat else if kd=1 then cE c x i.toNat false else if kd=2 then aE x i.toNat else if kd=3 then cE c x i.toNat true else x else x
def RsS.act(h:RsS c n N L ml B x)(k:NuK c n N L ml)(H:1100<=B)(I:B<=1000000000000)(kd i:Int):RsS c n N L ml (B+4) (rM c N x kd i)/\(rM c N x kd i).st.s.ops<=x.st.s.ops+1/\(kd≠0->(rM c N x kd i).st.s.ops=x.st.s.ops):=by
  have same:RsS c n N L ml (B+4) x:=⟨h.i,h.ok.mono ahE,h.dok⟩;unfold rM;split
  . rename_i O;have hi:i.toNat<n:=(by obtain⟨V,h1⟩:=O;have:=h.i.lU;omega);split;. rename_i k0;have q:=yI h.ok k.w H I hi;refine⟨⟨h.i.step k.y ⟨k.tg,by rw[h.ok.len];exact k.len⟩ h.ok.bd H I hi,⟨q.bd,q.v,q.len,Nat.le_refl _⟩,E4 h.dok k.N1 _⟩,q.ops,λe=>absurd k0 e⟩
    split;. have q:=k7 h.ok k.w H hi false;refine⟨⟨h.i.ask k.y hi false,by rw[q.2];exact q.1,by rw[wT];exact h.dok⟩,by rw[q.2];omega,λ_=>by rw[q.2]⟩
    split;. have e:=kE x i.toNat;refine⟨⟨h.i.leave hi,by rw[e];exact same.ok,by rw[yA];exact h.dok⟩,by rw[e];omega,λ_=>by rw[e]⟩
    split;. have q:=k7 h.ok k.w H hi true;refine⟨⟨h.i.ask k.y hi true,by rw[q.2];exact q.1,by rw[wT];exact h.dok⟩,by rw[q.2];omega,λ_=>by rw[q.2]⟩
    . exact⟨same,by omega,λ_=>rfl⟩
  . exact⟨same,by omega,λ_=>rfl⟩
end
section
variable{kg kl par:Nat}{bud:Int}{s:Ar}
def Jf(hc:a8 P T=0)(Kz:1<=kg/\kg<=5)(Y:1<=kl/\kl<=5)(hp:1<=par/\par<=1024)(hs:s.W=[]):RsS (fh kg kl par bud P T (smA s (ac P).length)) T.length (ac P).length (bC kg kl par P T (smA s (ac P).length)).s.W.length (mtQ P T) 1100 ⟨bC kg kl par P T (smA s (ac P).length),dr0,List.replicate T.length Sp.zero⟩/\(bC kg kl par P T (smA s (ac P).length)).s.ops<=s.ops+1100:=by
  refine ajL ?_;intro hz NP mP;have hw:∀y:Int,y<=((smA s (ac P).length).W.length:Int)->ldW (bC kg kl par P T (smA s (ac P).length)).s.W y=0:=λy hy=>by exact ab2
  have h:∀i,sv (List.replicate T.length Sp.zero) i=Sp.zero:=svR _;refine⟨⟨⟨wP hc Kz Y hp NP,by simp,λi hi=> .inl ⟨?_,?_⟩,λa V=>?_,λi hi hw=>?_,λi hi h0 O=>?_,λi hi h0 O=>?_⟩,⟨mP.bd,mP.v,mP.len,Nat.le_refl _⟩,λe=>by simp[dr0]at e⟩,mP.ops⟩;. show(sv (List.replicate T.length Sp.zero) i).pc=0;rw[h];rfl
  . show(sv (List.replicate T.length Sp.zero) i).pc=0;rw[h];rfl
  . have hc0:gN (fh kg kl par bud P T (smA s (ac P).length)) T.length (List.replicate T.length Sp.zero) a=0:=(by unfold gN jc;refine List.countP_eq_zero.2 (λj _=>?_);rw[h];simp[fz,Sp.zero]);show ldW _ _=ldW _ _+((gN _ _ (List.replicate T.length Sp.zero) a:Nat):Int);rw[hc0];have g1:=eO V;have g2:=bD V;unfold nuFl at g1 g2;have hl:=hz.2;rw[hw _ aia,hw _ aia];rfl
  . have I:gE (sv (List.replicate T.length Sp.zero) i):=hw;rw[h]at I;unfold gE Sp.zero at I;simp at I
  . have H:(sv (List.replicate T.length Sp.zero) i).pc=9:=O;rw[h]at H;simp[Sp.zero]at H
  . have H:(sv (List.replicate T.length Sp.zero) i).pc=10:=O;rw[h]at H;simp[Sp.zero]at H
end
end
section
open Go Go.RowKit
variable{c:CoC}
def kD(x:Nu)(i:Nat)(hi:i<x.U.length)(h:(sv x.U i).pc=10->(sv x.U i).a=0\/(sv x.U i).a=1):kx (sv x.U i).pc (sv (aE x i).U i).pc=decide ((sv x.U i).pc=10):=by
 unfold aE kx;split;.rename_i e;have:=h e;rw[decide_eq_true e];refine decide_eq_true (.inl ⟨.inr e,?_⟩);rw[show({x with U:=x.U.set i {sv x.U i with pc:=12-(sv x.U i).a}}:Nu).U=x.U.set i {sv x.U i with pc:=12-(sv x.U i).a} from rfl,fZ hi,if_pos rfl];dsimp only;omega
 .rename_i e;rw[decide_eq_false e];exact decide_eq_false ahE
def tD:kv where
 ty:=330
 pt:=274
 md:=1
 step:=cD
 ask:=λc x i r=>cE c x i r
 ok:=NuS
def tE(hk:NuK c T.length (ac P).length L (mtQ P T)):tD.Ok c P T L where
 act:=λB x hs h1 H i hi=>by
  have hl:okI x.U (i:Int):=⟨by omega,by rw[hs.i.lU];omega⟩
  have a0:=NuS.act hs hk h1 H 0 (i:Int)
  have a1:=λr:Bool=>NuS.act hs hk h1 H (if r then 3 else 1) (i:Int)
  have a2:=NuS.act hs hk h1 H 2 (i:Int)
  unfold rL at a0 a1 a2
  exact acr
 mono:=λB B' x h O=>⟨h.i,h.ok.mono O⟩
 lU:=λB x h=>h.i.lU
 safe:=λB x h i j hi hj h1 H V=>h.i.safe hk.y hi h1 V hj H
 link:=λB x h i hi=>by
  have:=h.i.k i hi
  unfold gS at this
  omega
 askS:=λx i r=>by
  exact acs
 cS:=λB BC w a g X q x BB i h hs O Y I hi=>by
  have C:=bK.pre (x:=X.x) (by rw[h.nT.1];exact hs.ok) aiG h.co.fx O.1 O.2 Y
  have k:=D3 h i hi (hs.i.k i hi) Y hk.N1 (λh9 Z3=>((hs.i.dr i hi (by have:=hs.i.k i hi;unfold gS at this;show(sv x.U i).a=0;omega) h9).1.2.2.1)) C
  refine(Da I (i:Int) (R:=λr w'=>r=dg (sv x.U i) (sv (cD c (ac P).length x i).U i)/\av 330 B BC w' a g X c P T (cD c (ac P).length x i).st (cD c (ac P).length x i).d (cD c (ac P).length x i).U/\aa (SmS a g X) w w') (k.mono ?_)).mono λ_ _ q=>q.to λ_ _ q=>q
  rintro e w' ⟨rfl,k2,t2⟩
  refine⟨_,rfl,?_,k2,t2⟩
  by_cases e:(sv x.U i).pc=0\/(sv x.U i).pc=10
  .rw[show cD c (ac P).length x i=x by unfold cD;rw[if_pos e]]
   exact acu
  .unfold dg kx
   by_cases f:(sv (cD c (ac P).length x i).U i).pc=10\/(sv (cD c (ac P).length x i).U i).pc=0
   .exact acv
   .exact acw
 cA:=λB BC w a g X q x i r h I hi=>by
  refine akh ?_
  intro hl
  refine(E8 I (i:Int) r (R:=λb w'=>b=decide ((sv x.U i).pc=0)/\av 330 B BC w' a g X c P T (cE c x i r).st (cE c x i r).d (cE c x i r).U/\aa (SmS a g X) w w') ((EP h i hi r).mono ?_)).mono λ_ _ q=>q.to λ_ _ q=>q
  exact acx
 cL:=λB BC w a g X q x i h I hi ha=>by
  refine akh ?_
  intro hl
  refine(An I (i:Int) (R:=λb w'=>b=decide ((sv x.U i).pc=10)/\av 330 B BC w' a g X c P T (aE x i).st (aE x i).d (aE x i).U/\aa (SmS a g X) w w') ((Bc h i hi ha).mono ?_)).mono λ_ _ q=>q.to λ_ _ q=>q
  exact acy
 cP:=λB BC w a g X q x i h I hi=>C7 I (i:Int) _ λW b=>by
  have k:=oQ (h.below b) (i:Int)
  exact acz
def tF:kv where
 ty:=335
 pt:=277
 md:=2
 step:=a6
 ask:=λc x i r=>cE c x i r
 ok:=RsS
def tG(hk:NuK c T.length (ac P).length L (mtQ P T)):tF.Ok c P T L where
 act:=λB x hs h1 H i hi=>by
  have hl:okI x.U (i:Int):=⟨by omega,by rw[hs.i.lU];omega⟩
  have a0:=RsS.act hs hk h1 H 0 (i:Int)
  have a1:=λr:Bool=>RsS.act hs hk h1 H (if r then 3 else 1) (i:Int)
  have a2:=RsS.act hs hk h1 H 2 (i:Int)
  unfold rM at a0 a1 a2
  exact acr
 mono:=λB B' x h O=>⟨h.i,h.ok.mono O,h.dok⟩
 lU:=λB x h=>h.i.lU
 safe:=λB x h i j hi hj h1 H V=>h.i.safe hk.y hi h1 V hj H
 link:=λB x h i hi=>by
  have:=h.i.k i hi
  unfold io at this
  omega
 askS:=λx i r=>by
  exact acs
 cS:=λB BC w a g X q x BB i h hs O Y I hi=>by
  have C:=bK.pre (x:=X.x) (by rw[h.nT.1];exact hs.ok) aiG h.co.fx O.1 O.2 Y
  have k:=D4 h i hi (hs.i.k i hi) Y hk.N1 (λ_ _ I=>(hs.dok I).1) C
  refine(Db I (i:Int) (R:=λr w'=>r=dg (sv x.U i) (sv (a6 c (ac P).length x i).U i)/\av 335 B BC w' a g X c P T (a6 c (ac P).length x i).st (a6 c (ac P).length x i).d (a6 c (ac P).length x i).U/\aa (SmS a g X) w w') (k.mono ?_)).mono λ_ _ q=>q.to λ_ _ q=>q
  rintro e w' ⟨rfl,k2,t2⟩
  refine⟨_,rfl,?_,k2,t2⟩
  by_cases e:(sv x.U i).pc=0\/(sv x.U i).pc=10
  .rw[show a6 c (ac P).length x i=x by unfold a6;rw[if_pos e]]
   exact acu
  .unfold dg kx
   by_cases f:(sv (a6 c (ac P).length x i).U i).pc=10\/(sv (a6 c (ac P).length x i).U i).pc=0
   .exact acv
   .exact acw
 cA:=λB BC w a g X q x i r h I hi=>by
  refine akh ?_
  intro hl
  refine(E9 I (i:Int) r (R:=λb w'=>b=decide ((sv x.U i).pc=0)/\av 335 B BC w' a g X c P T (cE c x i r).st (cE c x i r).d (cE c x i r).U/\aa (SmS a g X) w w') ((EQ h i hi r).mono ?_)).mono λ_ _ q=>q.to λ_ _ q=>q
  exact acx
 cL:=λB BC w a g X q x i h I hi ha=>by
  refine akh ?_
  intro hl
  refine(Ao I (i:Int) (R:=λb w'=>b=decide ((sv x.U i).pc=10)/\av 335 B BC w' a g X c P T (aE x i).st (aE x i).d (aE x i).U/\aa (SmS a g X) w w') ((Bd h i hi ha).mono ?_)).mono λ_ _ q=>q.to λ_ _ q=>q
  exact acy
 cP:=λB BC w a g X q x i h I hi=>C8 I (i:Int) _ λW b=>by
  have k:=oS (h.below b) (i:Int)
  exact acz
def tH:kv where
 ty:=337
 pt:=280
 md:=3
 step:=bh
 ask:=λc x i r=>fb x i r
 ok:=WsS
def tI(hk:NuK c T.length (ac P).length L (mtQ P T)):tH.Ok c P T L where
 act:=λB x hs h1 H i hi=>by
  have hl:okI x.U (i:Int):=⟨by omega,by rw[hs.i.lU];omega⟩
  have a0:=WsS.act hs hk h1 H 0 (i:Int)
  have a1:=λr:Bool=>WsS.act hs hk h1 H (if r then 3 else 1) (i:Int)
  have a2:=WsS.act hs hk h1 H 2 (i:Int)
  unfold rO at a0 a1 a2
  exact acr
 mono:=λB B' x h O=>⟨h.i,h.ok.mono O⟩
 lU:=λB x h=>h.i.lU
 safe:=λB x h i j hi hj h1 H h3=>h.i.safe hk.y hi h1 h3 hj H
 link:=λB x h i hi=>by
  have:=h.i.k i hi
  unfold gU at this
  omega
 askS:=λx i r=>by
  show(fb x i r).st.s=x.st.s
  unfold fb
  split
  .rfl
  .rfl
 cS:=λB BC w a g X q x BB i h hs O Y I hi=>by
  have C:=bK.pre (x:=X.x) (by rw[h.nT.1];exact hs.ok) aiG h.co.fx O.1 O.2 Y
  have k:=D5 h i hi (hs.i.k i hi) Y hk.N1 (λV h9 _=>((hs.i.dr i hi V h9).1.2.2.1)) C
  refine(Dc I (i:Int) (R:=λr w'=>r=dg (sv x.U i) (sv (bh c (ac P).length x i).U i)/\av 337 B BC w' a g X c P T (bh c (ac P).length x i).st (bh c (ac P).length x i).d (bh c (ac P).length x i).U/\aa (SmS a g X) w w') (k.mono ?_)).mono λ_ _ q=>q.to λ_ _ q=>q
  rintro e w' ⟨rfl,k2,t2⟩
  refine⟨_,rfl,?_,k2,t2⟩
  by_cases e:(sv x.U i).pc=0\/(sv x.U i).pc=10
  .rw[show bh c (ac P).length x i=x by unfold bh;rw[if_pos e]]
   exact acu
  .unfold dg kx
   by_cases f:(sv (bh c (ac P).length x i).U i).pc=10\/(sv (bh c (ac P).length x i).U i).pc=0
   .exact acv
   .exact acw
 cA:=λB BC w a g X q x i r h I hi=>by
  refine akh ?_
  intro hl
  refine(Fa I (i:Int) r (R:=λb w'=>b=decide ((sv x.U i).pc=0)/\av 337 B BC w' a g X c P T (fb x i r).st (fb x i r).d (fb x i r).U/\aa (SmS a g X) w w') ((ER h i hi r).mono ?_)).mono λ_ _ q=>q.to λ_ _ q=>q
  rintro e w' ⟨rfl,k2,t2⟩
  refine⟨_,rfl,?_,k2,t2⟩
  unfold fb
  exact acA
 cL:=λB BC w a g X q x i h I hi ha=>by
  refine akh ?_
  intro hl
  refine(Ap I (i:Int) (R:=λb w'=>b=decide ((sv x.U i).pc=10)/\av 337 B BC w' a g X c P T (aE x i).st (aE x i).d (aE x i).U/\aa (SmS a g X) w w') ((Be h i hi ha).mono ?_)).mono λ_ _ q=>q.to λ_ _ q=>q
  exact acy
 cP:=λB BC w a g X q x i h I hi=>C9 I (i:Int) _ λW b=>by
  have k:=oU (h.below b) (i:Int)
  exact acz
end
end Go.Proofs.YtglokdbiggbkjaaGreat
