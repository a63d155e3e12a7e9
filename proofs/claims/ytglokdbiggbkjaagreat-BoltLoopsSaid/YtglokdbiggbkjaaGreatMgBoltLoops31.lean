/- Joined texts. -/
import Derived.Test.YtglokdbiggbkjaaGreatMgBoltLoops0
import Derived.Test.YtglokdbiggbkjaaGreatMgBoltLoops27
import Derived.Test.YtglokdbiggbkjaaGreatMgBoltLoops28
set_option linter.unusedVariables false
set_option linter.unusedSimpArgs false
set_option linter.defProp false
set_option maxRecDepth 100000
set_option maxHeartbeats 16000000
open Go.Proofs.Tryz
namespace Go.Proofs.YtglokdbiggbkjaaGreat
open Go.IntKind(i64)
open Go.Value(int bool slice agg tuple pointer)
open Go.Ending(returned)
open Go.Obj(cells)
variable{n N j L o kg kl par:Nat}{ml:Nat->Nat}{P T:List Int}{B bud:Int}{Q:Prop}
section
open Go
variable{U:List Sp}{p':Sp}{s':Ar}{v:Int}{W':List Int}
def iI(c:CoC)(N:Nat)(x:Nu)(i:Nat)(p:Sp):Co×Dr×Int:=
 if p.a=1 then
  if p.pc=1 then(onA x.st (af x.st.s (nuFl N)),x.d,if ldW x.st.s.W (nuFl N)=0 then 2 else 1)
  else if p.pc=2 then(onA x.st (addA x.st.s (gaA (c.node i)) 1),x.d,3)
  else if p.pc=3 then(onA x.st (af x.st.s (nuFl N)),x.d,if ldW x.st.s.W (nuFl N)=0 then 10 else 4)
  else if p.pc=4 then(onA x.st (addA x.st.s (gaW (c.node i)) 1),x.d,1)
  else(onA x.st (addA x.st.s (gaW (c.node i)) 1),x.d,0)
 else if p.pc=5 then(bC c (onA x.st (addA x.st.s (nuFl N) 1)) i,x.d,7)
 else if p.pc=7 then(ak c x.st i,if bv (sv x.st.T i) (sv (ak c x.st i).T i)then dU x.d N false else x.d,if bv (sv x.st.T i) (sv (ak c x.st i).T i)then 9 else 7)
 else if p.pc=9 then(onA x.st (aj x.st.s x.d).1,(aj x.st.s x.d).2.1,if (aj x.st.s x.d).2.2=true then 10 else 9)
 else if p.pc=12 then(aA (onA x.st (addA x.st.s (nuFl N) (-1))) i,x.d,13)
 else(ak c x.st i,x.d,if bv (sv x.st.T i) (sv (ak c x.st i).T i)then 0 else 13)
def bj(c:CoC)(N:Nat)(x:Nu)(i:Nat):Nu:=
 if (sv x.U i).pc=0\/(sv x.U i).pc=10 then x
 else⟨(iI c N x i (sv x.U i)).1,(iI c N x i (sv x.U i)).2.1,x.U.set i {(sv x.U i)with pc:=(iI c N x i (sv x.U i)).2.2}⟩
def fi(x:Nu)(i:Nat)(read:Bool):Nu:=
 if (sv x.U i).pc=0 then {x with U:=x.U.set i (if read then⟨1,1,0,0⟩else⟨5,0,0,0⟩)} else x
def fJ(p:Sp):Bool:=decide (p.a=1/\(p.pc=3\/p.pc=4\/p.pc=10\/p.pc=11))
def dB(p:Sp):Prop:=p.a=1/\(p.pc=10\/p.pc=11)
def E2(p:Sp):Prop:=p.a=0/\(p.pc=9\/p.pc=10\/p.pc=12)
def wrC(p:Sp):Bool:=decide (p.a=0/\(p.pc=7\/p.pc=9\/p.pc=10\/p.pc=12))
def ia(p t:Sp):Prop:=
 (p.pc=0/\t.pc=0)\/(p.a=1/\(p.pc=1\/p.pc=2\/p.pc=3\/p.pc=4\/p.pc=10\/p.pc=11)/\t.pc=0)\/(p.a=0/\p.pc=5/\t.pc=0)\/
  (p.a=0/\p.pc=7/\0<t.pc/\t.pc<10)\/(p.a=0/\(p.pc=9\/p.pc=10\/p.pc=12)/\t.pc=10)\/(p.a=0/\p.pc=13/\10<t.pc)
def gY(c:CoC)(n:Nat)(U:List Sp)(a:Nat):Nat:=jo n (λj=>decide (c.node j=a)&&fJ (sv U j))
def mq(n:Nat)(U:List Sp):Nat:=jo n (λj=>wrC (sv U j))
def Ah(c:CoC)(n N:Nat)(d:Dr)(W:List Int)(U:List Sp):Prop:=
 (d.busy=true/\d.once=false/\d.at_<N/\d.lim=N)/\(d.second=true->d.o<=ldW W (gaW d.at_))/\∀j,j<n->dB (sv U j)->d.at_<=c.node j
structure WsI(c:CoC)(n N:Nat)(ml:Nat->Nat)(x:Nu):Prop where
 m:CoM c n N ml x.st
 lU:x.U.length=n
 k:∀i,i<n->ia (sv x.U i) (sv x.st.T i)
 g:∀a,a<N->ldW x.st.s.W (gaA a)=ldW x.st.s.W (gaW a)+(gY c n x.U a:Int)
 fl:ldW x.st.s.W (nuFl N)=(mq n x.U:Int)
 dr:∀i,i<n->(sv x.U i).a=0->(sv x.U i).pc=9->Ah c n N x.d x.st.s.W x.U
 hd:∀i,i<n->(sv x.U i).a=0->(sv x.U i).pc=10->∀j,j<n->¬dB (sv x.U j)
section
variable{c:CoC}{x x':Nu}
def WsI.safe(h:WsI c n N ml x)(y:cK c n N ml){i:Nat}(hi:i<n)(h1:(sv x.U i).pc=10)(H:(sv x.U i).a=0)(hj:j<n)(I:(sv x.U j).pc=10):j=i/\(sv x.U j).a=0:=by
 have ki:=h.k i hi;have V:=h.k j hj;by_cases O:(sv x.U j).a=1;.exact absurd ⟨O,.inl I⟩ (h.hd i hi H h1 j hj)
 .have t1:(sv x.st.T i).pc=10:=by unfold ia at ki;omega
  have t2:(sv x.st.T j).pc=10/\(sv x.U j).a=0:=by unfold ia at V;omega
  exact abQ
def WsI.one(h:WsI c n N ml x)(y:cK c n N ml){i:Nat}(hi:i<n)(H:j<n)(h1:(sv x.st.T i).pc=10)(I:(sv x.st.T j).pc=10):i=j:=h.m.one y hi H ahB ahB
def Fu{p t:Sp}(h:ia p t)(hw:E2 p):t.pc=10:=by unfold ia at h;unfold E2 at hw;omega
def mt{i:Nat}(h:i<U.length)(hi:i<n)(p:Sp)(a:Nat):gY c n (U.set i p) a+(if c.node i=a/\fJ (sv U i)=true then 1 else 0)=gY c n U a+(if c.node i=a/\fJ p=true then 1 else 0):=by unfold gY;have:=jG (P:=λj=>decide (c.node j=a)&&fJ (sv U j)) (Q:=λj=>decide (c.node j=a)&&fJ (sv (U.set i p) j)) (i:=i) (λj H=>by rw[svS h,if_neg H]) n hi;simp only[Bool.and_eq_true,decide_eq_true_eq]at this;rw[svS h,if_pos rfl]at this;exact this
def WsI.upd(h:WsI c n N ml x){i:Nat}(hi:i<n){st':Co}{d':Dr}(hm:CoM c n N ml st')(hT:∀j,j≠i->sv st'.T j=sv x.st.T j)(hk:ia p' (sv st'.T i))(hg:∀a,a<N->ldW st'.s.W (gaA a)=ldW st'.s.W (gaW a)+(gY c n (x.U.set i p') a:Int))(Nb:ldW st'.s.W (nuFl N)=(mq n (x.U.set i p'):Int))(hH:∀a,a<N->ldW x.st.s.W (gaW a)<=ldW st'.s.W (gaW a))(MC:dB p'->dB (sv x.U i)\/∀j,j<n->j≠i->¬E2 (sv x.U j))(hd:∀j,j<n->j≠i->(sv x.U j).a=0->(sv x.U j).pc=9->d'=x.d)(od:p'.a=0->p'.pc=9->Ah c n N d' st'.s.W (x.U.set i p'))(oh:p'.a=0->p'.pc=10->∀j,j<n->j≠i->¬dB (sv x.U j)):WsI c n N ml ⟨st',d',x.U.set i p'⟩:=by
  refine akj ?_;intro hl;have hs:=svS hl p';refine⟨hm,by rw[List.length_set];exact h.lU,λj V=>?_,hg,Nb,λj V h0 h9=>?_,λj V h0 h10=>?_⟩
  . show ia (sv (x.U.set i p') j) (sv st'.T j);rw[hs];split;. rename_i e;rw[e];exact hk
    . rename_i e;rw[hT j e];exact h.k j V
  . have H:(sv (x.U.set i p') j).a=0:=h0;have O:(sv (x.U.set i p') j).pc=9:=h9;rw[hs]at H O;by_cases e:j=i;. rw[if_pos e]at H O;exact od H O
    . rw[if_neg e]at H O;obtain⟨q1,q2,q3⟩:=h.dr j V H O;show Ah c n N d' st'.s.W (x.U.set i p');rw[hd j V e H O];refine⟨q1,λhq=>Int.le_trans (q2 hq) (hH _ q1.2.2.1),λk hk I=>?_⟩;rw[hs]at I;split at I
      . rename_i e2;rcases MC I with h1|h1
        . rw[e2];exact q3 i hi h1
        . exact absurd ⟨H,.inl O⟩ (h1 j V e)
      . exact q3 k hk I
  . have H:(sv (x.U.set i p') j).a=0:=h0;have O:(sv (x.U.set i p') j).pc=10:=h10;rw[hs]at H O;intro k hk I;have Y:dB (sv (x.U.set i p') k):=I;rw[hs]at Y;by_cases e:j=i
    . rw[if_pos e]at H O;split at Y;. unfold dB at Y;omega
      . rename_i e2;exact oh H O k hk e2 Y
    . rw[if_neg e]at H O;split at Y
      . rcases MC Y with h1|h1
        . exact h.hd j V H O i hi h1
        . exact h1 j V e ⟨H,.inr (.inl O)⟩
      . exact h.hd j V H O k hk Y
def rr(h:WsI c n N ml x)(y:cK c n N ml)(l:NuL c N x.st.s.W){z:Int}(hz:1<=z/\z<=nuFl N)(v:Int)(e:s'.W=stW x.st.s.W z v):(∀q,ldW s'.W q=if q=z then v else ldW x.st.s.W q)/\CoM c n N ml (onA x.st s'):=by exact abR
def lC(h:WsI c n N ml x)(y:cK c n N ml)(e:s'.W=x.st.s.W):CoM c n N ml (onA x.st s'):=
 h.m.low y (by rw[e]) (λq _=>by rw[e]) (h.m.v.ars s')
def oj{i:Nat}(h:i<U.length)(hi:i<n)(p:Sp):mq n (U.set i p)+(if wrC (sv U i)=true then 1 else 0)=mq n U+(if wrC p=true then 1 else 0):=by unfold mq;have:=jG (P:=λj=>wrC (sv U j)) (Q:=λj=>wrC (sv (U.set i p) j)) (i:=i) (λj H=>by rw[svS h,if_neg H]) n hi;rw[svS h,if_pos rfl]at this;exact this
def eH(h:WsI c n N ml x){i:Nat}(hi:i<n)(hb:wrC p'=wrC (sv x.U i))(O:v=ldW x.st.s.W (nuFl N)):v=(mq n (x.U.set i p'):Int):=by have:=oj (n:=n) (show i<x.U.length by rw[h.lU];exact hi) hi p';rw[hb]at this;rw[O,h.fl];omega
def JQ(h:WsI c n N ml x){i:Nat}(hi:i<n)(h0:wrC (sv x.U i)=false)(h1:wrC p'=true)(O:v=ldW x.st.s.W (nuFl N)+1):v=(mq n (x.U.set i p'):Int):=by exact acn
def F5(h:WsI c n N ml x){i:Nat}(hi:i<n)(h0:wrC (sv x.U i)=true)(h1:wrC p'=false)(O:v=ldW x.st.s.W (nuFl N)+ -1):v=(mq n (x.U.set i p'):Int):=by exact acn
def yJ{P:Nat->Bool}{i:Nat}(h:jo n P=0)(hi:i<n):P i=false:=by
 cases H:P i with
 |false=>rfl
 |true=>have:=jH hi H;omega
def WsI.none(h:WsI c n N ml x)(H:ldW x.st.s.W (nuFl N)=0)(I:j<n):¬((sv x.U j).a=0/\((sv x.U j).pc=7\/(sv x.U j).pc=9\/(sv x.U j).pc=10\/(sv x.U j).pc=12)):=by have h1:=h.fl;rw[H]at h1;have:=yJ (P:=λj=>wrC (sv x.U j)) (n:=n) (show jo n _=0 by have:(mq n x.U:Int)=0:=h1.symm;unfold mq at this;omega) I;exact of_decide_eq_false this
def DD(h:WsI c n N ml x){i:Nat}(hi:i<n)(hb:fJ p'=fJ (sv x.U i))(a:Nat):gY c n (x.U.set i p') a=gY c n x.U a:=by have:=mt (c:=c) (n:=n) (show i<x.U.length by rw[h.lU];exact hi) hi p' a;rw[hb]at this;omega
def dK(h:WsI c n N ml x){i:Nat}(hi:i<n)(hb:fJ p'=fJ (sv x.U i))(hw:∀q,q<nuFl N->ldW W' q=ldW x.st.s.W q):∀a,a<N->ldW W' (gaA a)=ldW W' (gaW a)+(gY c n (x.U.set i p') a:Int):=λa H=>by
 rw[hw _ (eY H).2,hw _ (bH H).2,DD h hi hb a];exact h.g a H
def If(h:WsI c n N ml x)(hn:∀j,j<n->c.node j<N){i:Nat}(hi:i<n)(h0:fJ (sv x.U i)=false)(h1:fJ p'=true)(hw:∀q,ldW W' q=if q=gaA (c.node i)then ldW x.st.s.W (gaA (c.node i))+1 else ldW x.st.s.W q):∀a,a<N->ldW W' (gaA a)=ldW W' (gaW a)+(gY c n (x.U.set i p') a:Int):=λa ha=>by
 have h2:=mt (c:=c) (n:=n) (show i<x.U.length by rw[h.lU];exact hi) hi p' a
 exact abS
def BM(h:WsI c n N ml x)(hn:∀j,j<n->c.node j<N){i:Nat}(hi:i<n)(h0:fJ (sv x.U i)=true)(h1:fJ p'=false)(hw:∀q,ldW W' q=if q=gaW (c.node i)then ldW x.st.s.W (gaW (c.node i))+1 else ldW x.st.s.W q):∀a,a<N->ldW W' (gaA a)=ldW W' (gaW a)+(gY c n (x.U.set i p') a:Int):=λa ha=>by
 have h2:=mt (c:=c) (n:=n) (show i<x.U.length by rw[h.lU];exact hi) hi p' a
 exact abT
end
end
section
open Go.RowKit
section
variable{B BC:Nat->Prop}{w w' w0:World}{a g:Nat}{X:SmX}{c:CoC}{st st':Co}{d d':Dr}{U:List Sp}{s':Ar}{BB:Int}
def FG(h:aw 337 B BC w a g X c P T st d U)(n:Nat)(hn:n<T.length)(r:Bool):E 396 #[↑X.l,J n,.bool r] w (av 337 B BC w a g X c P T U n (fi ⟨st,d,U⟩ n r)):=by
 have mT:okI U (n:Int):=⟨by omega,by rw[h.lU];omega⟩;have HH:=qh (BT h n true (decide_eq_true mT).symm);have hp:=h.thr hn;have H:=qh h;obtain⟨x',O⟩:=LE (fi ⟨st,d,U⟩ n r);rw[<-O];unfold fi at O;obtain⟨p,mP⟩:=LE (sv U n);simp only at O;rw[<-mP]at hp O;have c6:=h.cs.2.2.2.2.2.2;refine ai0 ?_;intro a0 a1 a2 a3;have f1:∀j,w.frozen? ⟨X.q,j,none⟩=false:=λj=>h.sp.free j;have t2:¬(n:Int)<0:=by omega
 have SI:X.q≠X.l:=h.o3.1;have HX:=qh O;have HP:=qh hp;clear h hp mP mT O;by_cases I:p.pc=0
 .have y1:(p.pc !=0)=false:=by simpa using I
  have HP0:=qh I;clear I;have V:=qh (H.o.put4 hn ⟨5,0,0,0⟩);have e6:=V.o.cs.2.2.2.2.2.2;cases r;.go_enter func396,ntmps396;go_wp2_with fail;refine LT HH.o ?_;go_wp2;go_ret;rw[HX.o,if_pos HP0.o];first|exact av.stay (V.o) (fB _ _ _ _ _ _) rfl|exact av.put HP.o (V.o) (fB _ _ _ _ _ _) rfl ahL
  .go_enter func396,ntmps396;go_wp2_with fail;refine LT HH.o ?_;go_wp2;go_ret;rw[HX.o,if_pos HP0.o];have Y:=V.o.put4 hn ⟨1,1,0,0⟩;rw[List.set_set]at Y;first|exact av.stay (Y) ((fB _ _ _ _ _ _).trans (fB _ _ _ _ _ _)) rfl|exact av.put HP.o (Y) ((fB _ _ _ _ _ _).trans (fB _ _ _ _ _ _)) rfl ahL
 .have y1:(p.pc !=0)=true:=by simpa using I
  have HP0:=qh I;clear I;go_enter func396,ntmps396;exact abW
def Cf(h:aw 337 B BC w a g X c P T st d U)(n:Nat)(hn:n<T.length)(ha:(sv U n).pc=10->(sv U n).a=0\/(sv U n).a=1):E 397 #[↑X.l,J n] w (av 337 B BC w a g X c P T U n (aE ⟨st,d,U⟩ n)):=by
 have Kt:=aP;have H':=pE h n;have hp:=h.thr hn;have hg:getS U (n:Int)=sv U n:=by exact abX
 rw[hg]at H';refine aj6 ?_;intro H x' p mP r';rw[<-mP]at hp r' H' ha;have HS:=qh H';have HP:=qh hp;refine aj0 ?_;intro t2 MX;clear h hp mP hg H';obtain⟨pc,u,b,z⟩:=p;simp only at ha r';unfold aF at HS;by_cases KF:pc=10
 .subst KF;have Lv:=ha rfl;rw[if_pos rfl]at r';clear ha;rcases Lv with rfl|rfl
  .have HX:Kq (x'=⟨st,d,U.set n ⟨12,0,b,z⟩⟩):=qh r';have x1:IntKind.i64.wrap 12=12:=IntWalk.i64_in _ ahB;clear r';go_enter func397,ntmps397;go_wp2_with fail;refine ajc ?_;intro w1 b1 K1 T1;go_upto_region 2 with fail;obtain⟨V,Ls⟩:=LE w1.heap.size;obtain⟨O,Y⟩:=LE (w1.alloc (cells #[J 10,J 0,J b,J z] 113));rw[<-Y,<-Ls];have I:=qh (show aw 337 B BC O a g X c P T st d U/\aa (SmS a g X) w O/\Blk O V 113 #[J 10,J 0,J b,J z]/\V≠X.q from⟨by rw[Y];exact K1.o.below ((Below.refl _ _).alloc (Nat.le_refl _) _),by rw[Y];exact T1.o.alloc _,by rw[Y,Ls];exact Blk.new _ _ _,by have q1:=K1.o.sp.lt;omega⟩);clear Y Ls K1 T1;have HC:=qh (λW (U':List Sp) (k:aw 337 B BC W a g X c P T st d U') (hb:Blk W V 113 #[J 10,J 0,J b,J z])=>And.intro k.cs.2.2.2.2.2.2 (show W.cell? ⟨V,1,none⟩=some (J 0)from hb.cell 1));have K2:=qh (I.o.1.below (Below.refl _ _).drew);have B2:=qh ((aa.refl [] O).drew.blk I.o.2.2.1 ahC);have K3:=qh ((I.o.1.put0 HP.o (p':=(⟨12,0,b,z⟩:Sp)) (u:= J 12) rfl).below (Below.refl _ _).drew);have T3:=qh ((I.o.2.1.trans (eg (n*4) (J 12))).drew);have B3:=qh (((aW _ _ _:aa [X.q] O (O.setCell ⟨X.q,n*4,none⟩ (J 12))).drew).blk I.o.2.2.1 (by simp;exact I.o.2.2.2));have v0:O.cell? V=some (J 10):=I.o.2.2.1.cell 0;have e0:=ST (K2.o.sp.cell HP.o 0 _ rfl);have z0:=K2.o.sp.free (n*4);go_wp2_with fail
   go_region_held3 (λW=>Z W X.l 6 (slice (some ⟨X.q,0,none⟩) T.length T.length)/\Z W V 1 (J 0))
    (first|with_reducible exact HC.o _ _ K2.o B2.o|with_reducible exact HC.o _ _ K3.o B3.o)
    (first|fail)
   exact abY
  .have HX:Kq (x'=⟨st,d,U.set n ⟨11,1,b,z⟩⟩):=qh r';have x1:IntKind.i64.wrap 11=11:=IntWalk.i64_in _ ahB;clear r';go_enter func397,ntmps397;go_wp2_with fail;refine ajc ?_;intro w1 b1 K1 T1;go_upto_region 2 with fail;obtain⟨V,Ls⟩:=LE w1.heap.size;obtain⟨O,Y⟩:=LE (w1.alloc (cells #[J 10,J 1,J b,J z] 113));rw[<-Y,<-Ls];have I:=qh (show aw 337 B BC O a g X c P T st d U/\aa (SmS a g X) w O/\Blk O V 113 #[J 10,J 1,J b,J z]/\V≠X.q from⟨by rw[Y];exact K1.o.below ((Below.refl _ _).alloc (Nat.le_refl _) _),by rw[Y];exact T1.o.alloc _,by rw[Y,Ls];exact Blk.new _ _ _,by have q1:=K1.o.sp.lt;omega⟩);clear Y Ls K1 T1;have HC:=qh (λW (U':List Sp) (k:aw 337 B BC W a g X c P T st d U') (hb:Blk W V 113 #[J 10,J 1,J b,J z])=>And.intro k.cs.2.2.2.2.2.2 (show W.cell? ⟨V,1,none⟩=some (J 1)from hb.cell 1));have K2:=qh (I.o.1.below (Below.refl _ _).drew);have B2:=qh ((aa.refl [] O).drew.blk I.o.2.2.1 ahC);have K3:=qh ((I.o.1.put0 HP.o (p':=(⟨11,1,b,z⟩:Sp)) (u:= J 11) rfl).below (Below.refl _ _).drew);have T3:=qh ((I.o.2.1.trans (eg (n*4) (J 11))).drew);have B3:=qh (((aW _ _ _:aa [X.q] O (O.setCell ⟨X.q,n*4,none⟩ (J 11))).drew).blk I.o.2.2.1 (by simp;exact I.o.2.2.2));have v0:O.cell? V=some (J 10):=I.o.2.2.1.cell 0;have e0:=ST (K2.o.sp.cell HP.o 0 _ rfl);have z0:=K2.o.sp.free (n*4);go_wp2_with fail
   go_region_held3 (λW=>Z W X.l 6 (slice (some ⟨X.q,0,none⟩) T.length T.length)/\Z W V 1 (J 1))
    (first|with_reducible exact HC.o _ _ K2.o B2.o|with_reducible exact HC.o _ _ K3.o B3.o)
    (first|fail)
   exact abY
 .have y1:(pc !=10)=true:=by simpa using KF
  have HX:=qh r';have HP0:=qh KF;clear KF ha r';go_enter func397,ntmps397;exact acd
end
end
section
open Go
section
variable{c:CoC}{x:Nu}
def lQ{p:Sp}(h:¬(p.a=1/\(p.pc=2\/p.pc=10\/p.pc=11))):fI p=false:=decide_eq_false h
def EF{p:Sp}(h:p.a=1/\(p.pc=2\/p.pc=10\/p.pc=11)):fI p=true:=decide_eq_true h
def RsI.ask(h:RsI c n N ml x)(y:cK c n N ml){i:Nat}(hi:i<n)(r:Bool):RsI c n N ml (cH c x i r):=by
 unfold cH;split
 .rename_i Y;have V:=h.k i hi;have O:(sv x.st.T i).pc=0:=by unfold iy at V;omega
  have hb:fI (sv x.U i)=false:=lQ ahB;split;.exact h.upd (p':=⟨1,1,0,0⟩) hi h.m (λ_ _=>rfl) (.inr (.inl ⟨rfl,.inl rfl,O⟩)) (dJ h hi ah8 (λ_ _=>rfl)) (λj H _ hw=>h.fl j H hw) (λhw=>by unfold gN at hw;simp at hw) (λ_ _=>Int.le_refl _) (λI=>by unfold dF at I;simp at I) (λ_ _ _ _ _=>rfl) (λe=>by simp at e) (λe=>by simp at e)
  .have hm:=h.m.ask y hi;have hs:=gI c x.st i;have hT:=(Kg (c:=c) (j:=i) h.m.v hi).2 O;exact h.upd (p':=⟨7,0,0,0⟩) hi hm (λj H=>(Kg (c:=c) h.m.v hi).1 H) (.inr (.inr (.inl ⟨rfl,rfl,by omega,by omega⟩))) (by rw[hs];exact dJ h hi ah8 (λ_ _=>rfl)) (λj H _ hw=>by rw[hs];exact h.fl j H hw) (λhw=>by unfold gN at hw;simp at hw) (λa _=>by rw[hs];exact Int.le_refl _) (λI=>by unfold dF at I;simp at I) (λ_ _ _ _ _=>rfl) (λ_ e=>by simp at e) (λ_ e=>by simp at e)
 .exact h
def RsI.leave(h:RsI c n N ml x){i:Nat}(hi:i<n):RsI c n N ml (aE x i):=by
 unfold aE;split
 .rename_i h10;have hk:=h.k i hi;obtain⟨p,hp⟩:=LE (sv x.U i);have V:=h.fl i hi;rw[<-hp]at hk h10 V ⊢;have Y:(p.a=1/\(sv x.st.T i).pc=0)\/(p.a=0/\(sv x.st.T i).pc=10):=by unfold iy at hk;omega
  obtain⟨pc,u,b,z⟩:=p;simp only at h10 Y;subst h10;rcases Y with⟨rfl,O⟩|⟨rfl,O⟩
  .exact h.upd (p':=⟨11,1,b,z⟩) hi h.m (λ_ _=>rfl) (.inr (.inl ⟨rfl,.inr (.inr (.inr rfl)),O⟩)) (dJ h hi ahH (λ_ _=>rfl)) (λj H _ hw=>h.fl j H hw) (λhw=>by unfold gN at hw;simp at hw) (λ_ _=>Int.le_refl _) (λI=> .inl (by rw[<-hp];exact⟨rfl,.inl rfl⟩)) (λ_ _ _ _ _=>rfl) (λe=>by simp at e) (λe=>by simp at e)
  .exact h.upd (p':=⟨12,0,b,z⟩) hi h.m (λ_ _=>rfl) (.inr (.inr (.inr (.inl ⟨rfl,.inr (.inr (.inr (.inr (.inr rfl)))),O⟩)))) (dJ h hi ahH (λ_ _=>rfl)) (λj H _ hw=>h.fl j H hw) (λ_=>V ⟨rfl,.inr (.inr (.inl rfl))⟩) (λ_ _=>Int.le_refl _) (λI=>by unfold dF at I;simp at I) (λ_ _ _ _ _=>rfl) (λ_ e=>by simp at e) (λ_ e=>by simp at e)
 .exact h
def kM{P:Prop}(q:Q)(h:Kq Q->P:=by
    intro q_
    have hn:=(y.nd i hi).1
    have Kw:∀j,j<n->c.node j<N:=λj hj=>(y.nd j hj).1
    have hk:=h.k i hi
    have E':=h.fl i hi
    have Lc:=h.dr i hi
    have oth:(sv x.st.T i).pc=10->∀j,j<n->j≠i->¬gN (sv x.U j):=λht j hj e hw=>e (h.one y hj hi (JG (h.k j hj) hw) ht)
    have Lk:(sv x.st.T i).pc=10->∀j,j<n->j≠i->(sv x.U j).a=0->(sv x.U j).pc=9->False:=λht j hj e h0 h9=>oth ht j hj e ⟨h0,.inr (.inl h9)⟩
    have bA:=hB.w.ld ahB (gaA (c.node i))
    have bW:=hB.w.ld ahB (gaW (c.node i))
    refine ajh ?_
    intro wA wW
    have lA:=rq h y l (z:=gaA (c.node i)) ⟨(eY hn).1,by have:=(eY hn).2;omega⟩ (ldW x.st.s.W (gaA (c.node i))+1) (s':=addA x.st.s (gaA (c.node i)) 1) (by rw[d9,wA])
    have lW:=rq h y l (z:=gaW (c.node i)) ⟨(bH hn).1,by have:=(bH hn).2;omega⟩ (ldW x.st.s.W (gaW (c.node i))+1) (s':=addA x.st.s (gaW (c.node i)) 1) (by rw[d9,wW])
    have lF:=λv=>rq h y l (z:=nuFl N) ⟨by unfold nuFl;omega,Int.le_refl _⟩ v (s':=ae x.st.s (nuFl N) v) (ay _ _ _)
    refine ai2 ?_
    intro fA fW HA
    have HW:∀a,a<N->ldW x.st.s.W (gaW a)<=ldW (addA x.st.s (gaW (c.node i)) 1).W (gaW a):=λa _=>by
      exact abZ
    refine ajg ?_
    intro HF SF mS lS Km tS aS
    unfold a7
    rw[<-hp]
    rw[<-hp]at hk E' Lc
    rw[if_neg ahC]
    revert hn Kw hk E' Lc oth Lk bA bW wA wW lA lW lF fA fW HA HW HF SF mS lS Km tS aS
    exact q_.o):P:=h ⟨q⟩
def RsI.s1(h:RsI c n N ml x)(y:cK c n N ml)(l:NuL c N x.st.s.W)(hB:CoB c B x.st)(H:40<=B)(O:B<=1000000000000){i:Nat}(hi:i<n)(b z:Int)(hp:(⟨1,1,b,z⟩:Sp)=sv x.U i)(ht:(sv x.st.T i).pc=0):RsI c n N ml (a7 c N x i):=by refine kM ?_;intro hn Kw hk E' Lc oth Lk bA bW wA wW lA lW lF fA fW HA HW HF SF mS lS Km tS aS;show RsI c n N ml ⟨onA x.st (addA x.st.s (gaA (c.node i)) 1),x.d,x.U.set i ⟨2,1,b,z⟩⟩;exact h.upd (p':=⟨2,1,b,z⟩) hi lA.2 (λ_ _=>rfl) (.inr (.inl ⟨rfl,.inr (.inl rfl),ht⟩)) (Ie h Kw hi ahH rfl lA.1) (λj hj _ hw=>by rw[show ldW (onA x.st (addA x.st.s (gaA (c.node i)) 1)).s.W (nuFl N)=_ from fA];exact h.fl j hj hw) (λhw=>by unfold gN at hw;simp at hw) HA (λI=>by unfold dF at I;simp at I) (λ_ _ _ _ _=>rfl) (λe=>by simp at e) (λe=>by simp at e)
def RsI.s2(h:RsI c n N ml x)(y:cK c n N ml)(l:NuL c N x.st.s.W)(hB:CoB c B x.st)(O:40<=B)(V:B<=1000000000000){i:Nat}(hi:i<n)(b z:Int)(hp:(⟨2,1,b,z⟩:Sp)=sv x.U i)(ht:(sv x.st.T i).pc=0):RsI c n N ml (a7 c N x i):=by
 refine kM ?_;intro hn Kw hk E' Lc oth Lk bA bW wA wW lA lW lF fA fW HA HW HF SF mS lS Km tS aS;have e:(af x.st.s (nuFl N)).W=x.st.s.W:=aQ _ _;show RsI c n N ml ⟨onA x.st (af x.st.s (nuFl N)),x.d,x.U.set i ⟨if ldW x.st.s.W (nuFl N)=0 then 10 else 2,1,b,z⟩⟩;by_cases H:ldW x.st.s.W (nuFl N)=0;.rw[if_pos H];exact h.upd (p':=⟨10,1,b,z⟩) hi (nD h y e) (λ_ _=>rfl) (.inr (.inl ⟨rfl,.inr (.inr (.inl rfl)),ht⟩)) (dJ h hi ahH (λq _=>by show ldW (af _ _).W q=_;rw[e])) (λj hj _ hw=>by show ldW (af _ _).W _≠0;rw[e];exact h.fl j hj hw) (λhw=>by unfold gN at hw;simp at hw) (λa _=>by show _<=ldW (af _ _).W _;rw[e];exact Int.le_refl _) (λ_=> .inr (λj hj _ hw=>h.fl j hj hw H)) (λ_ _ _ _ _=>rfl) (λe=>by simp at e) (λe=>by simp at e)
 .rw[if_neg H];exact h.upd (p':=⟨2,1,b,z⟩) hi (nD h y e) (λ_ _=>rfl) (.inr (.inl ⟨rfl,.inr (.inl rfl),ht⟩)) (dJ h hi ahO (λq _=>by show ldW (af _ _).W q=_;rw[e])) (λj hj _ hw=>by show ldW (af _ _).W _≠0;rw[e];exact h.fl j hj hw) (λhw=>by unfold gN at hw;simp at hw) (λa _=>by show _<=ldW (af _ _).W _;rw[e];exact Int.le_refl _) (λI=>by unfold dF at I;simp at I) (λ_ _ _ _ _=>rfl) (λe=>by simp at e) (λe=>by simp at e)
def RsI.s11(h:RsI c n N ml x)(y:cK c n N ml)(l:NuL c N x.st.s.W)(hB:CoB c B x.st)(H:40<=B)(O:B<=1000000000000){i:Nat}(hi:i<n)(b z:Int)(hp:(⟨11,1,b,z⟩:Sp)=sv x.U i)(ht:(sv x.st.T i).pc=0):RsI c n N ml (a7 c N x i):=by refine kM ?_;intro hn Kw hk E' Lc oth Lk bA bW wA wW lA lW lF fA fW HA HW HF SF mS lS Km tS aS;show RsI c n N ml ⟨onA x.st (addA x.st.s (gaW (c.node i)) 1),x.d,x.U.set i ⟨0,1,b,z⟩⟩;exact h.upd (p':=⟨0,1,b,z⟩) hi lW.2 (λ_ _=>rfl) (.inl ⟨rfl,ht⟩) (F7 h Kw hi ahH rfl lW.1) (λj hj _ hw=>by rw[show ldW (onA x.st (addA x.st.s (gaW (c.node i)) 1)).s.W (nuFl N)=_ from fW];exact h.fl j hj hw) (λhw=>by unfold gN at hw;simp at hw) HW (λI=>by unfold dF at I;simp at I) (λ_ _ _ _ _=>rfl) (λe=>by simp at e) (λe=>by simp at e)
def RsI.s7(h:RsI c n N ml x)(y:cK c n N ml)(l:NuL c N x.st.s.W)(hB:CoB c B x.st)(O:40<=B)(V:B<=1000000000000){i:Nat}(hi:i<n)(b z:Int)(hp:(⟨7,0,b,z⟩:Sp)=sv x.U i)(ht:0<(sv x.st.T i).pc/\(sv x.st.T i).pc<10):RsI c n N ml (a7 c N x i):=by
 refine kM ?_;intro hn Kw hk E' Lc oth Lk bA bW wA wW lA lW lF fA fW HA HW HF SF mS lS Km tS aS;have a1:=aS.1 ht;show RsI c n N ml ⟨ak c x.st i,x.d,x.U.set i ⟨if bv (sv x.st.T i) (sv (ak c x.st i).T i)then 8 else 7,0,b,z⟩⟩;rw[a1.2];by_cases H:(sv (ak c x.st i).T i).pc=10;.rw[decide_eq_true H];exact h.upd (p':=⟨8,0,b,z⟩) hi mS tS (.inr (.inr (.inr (.inl ⟨rfl,.inr (.inr (.inl rfl)),by omega⟩)))) (dJ h hi ahH (λq hq=>Km q ahB)) (λj hj _ hw=>by rw[Km _ (Int.le_refl _)];exact h.fl j hj hw) (λhw=>by unfold gN at hw;simp at hw) (λa ha=>by rw[Km _ ahJ];exact Int.le_refl _) (λI=>by unfold dF at I;simp at I) (λ_ _ _ _ _=>rfl) (λ_ e=>by simp at e) (λ_ e=>by simp at e)
 .rw[decide_eq_false H];have Y:=a1.1;exact h.upd (p':=⟨7,0,b,z⟩) hi mS tS (.inr (.inr (.inl ⟨rfl,rfl,by omega,by omega⟩))) (dJ h hi ahO (λq hq=>Km q ahB)) (λj hj _ hw=>by rw[Km _ (Int.le_refl _)];exact h.fl j hj hw) (λhw=>by unfold gN at hw;simp at hw) (λa ha=>by rw[Km _ ahJ];exact Int.le_refl _) (λI=>by unfold dF at I;simp at I) (λ_ _ _ _ _=>rfl) (λ_ e=>by simp at e) (λ_ e=>by simp at e)
def RsI.s5(h:RsI c n N ml x)(y:cK c n N ml)(l:NuL c N x.st.s.W)(hB:CoB c B x.st)(H:40<=B)(O:B<=1000000000000){i:Nat}(hi:i<n)(b z:Int)(hp:(⟨5,0,b,z⟩:Sp)=sv x.U i)(ht:(sv x.st.T i).pc=10):RsI c n N ml (a7 c N x i):=by refine kM ?_;intro hn Kw hk E' Lc oth Lk bA bW wA wW lA lW lF fA fW HA HW HF SF mS lS Km tS aS;show RsI c n N ml ⟨onA x.st (ae x.st.s (nuFl N) 0),dU x.d N false,x.U.set i ⟨6,0,b,z⟩⟩;exact h.upd (p':=⟨6,0,b,z⟩) hi (lF 0).2 (λ_ _=>rfl) (.inr (.inr (.inr (.inl ⟨rfl,.inr (.inl rfl),ht⟩)))) (dJ h hi ahH (SF 0)) (λj hj e hw=>absurd hw (oth ht j hj e)) (λhw=>by unfold gN at hw;simp at hw) (HF 0) (λI=>by unfold dF at I;simp at I) (λj hj e h0 h9=>(Lk ht j hj e h0 h9).elim) (λ_ e=>by simp at e) (λ_ e=>by simp at e)
def RsI.s6(h:RsI c n N ml x)(y:cK c n N ml)(l:NuL c N x.st.s.W)(hB:CoB c B x.st)(Y:40<=B)(KD:B<=1000000000000){i:Nat}(hi:i<n)(b z:Int)(hp:(⟨6,0,b,z⟩:Sp)=sv x.U i)(ht:(sv x.st.T i).pc=10):RsI c n N ml (a7 c N x i):=by
 refine kM ?_;intro hn Kw hk E' Lc oth Lk bA bW wA wW lA lW lF fA fW HA HW HF SF mS lS Km tS aS;have O:=gZ x.st.s x.d;have go:∀(H:Int) (d':Dr),(H=6\/H=8)->RsI c n N ml ⟨onA x.st (aj x.st.s x.d).1,d',x.U.set i ⟨H,0,b,z⟩⟩:=λH d' V=>by refine h.upd (p':=⟨H,0,b,z⟩) hi (nD h y O) (λ_ _=>rfl) (by rcases V with rfl|rfl;exact .inr (.inr (.inr (.inl ⟨rfl,.inr (.inl rfl),ht⟩)));exact .inr (.inr (.inr (.inl ⟨rfl,.inr (.inr (.inl rfl)),ht⟩)))) (dJ h hi ?_ (λq _=>by show ldW (aj _ _).1.W q=_;rw[O])) (λj hj _ hw=>by show ldW (aj _ _).1.W _≠0;rw[O];exact h.fl j hj hw) (λhw=>by unfold gN at hw;simp only at hw;omega) (λa _=>by show _<=ldW (aj _ _).1.W _;rw[O];exact Int.le_refl _) (λI=>by unfold dF at I;simp at I) (λj hj e h0 h9=>(Lk ht j hj e h0 h9).elim) (λ_ e=>by simp only at e;omega) (λ_ e=>by simp only at e;omega);rw[<-hp,lQ ahC,lQ ahC]
 show RsI c n N ml ⟨onA x.st (aj x.st.s x.d).1,(aj x.st.s x.d).2.1,x.U.set i ⟨if (aj x.st.s x.d).2.2=false then 6 else 8,0,b,z⟩⟩;exact go _ _ (by split<;>omega)
def RsI.s8(h:RsI c n N ml x)(y:cK c n N ml)(l:NuL c N x.st.s.W)(hB:CoB c B x.st)(H:40<=B)(O:B<=1000000000000){i:Nat}(hi:i<n)(b z:Int)(hp:(⟨8,0,b,z⟩:Sp)=sv x.U i)(ht:(sv x.st.T i).pc=10):RsI c n N ml (a7 c N x i):=by
 refine kM ?_;intro hn Kw hk E' Lc oth Lk bA bW wA wW lA lW lF fA fW HA HW HF SF mS lS Km tS aS;show RsI c n N ml ⟨onA x.st (ae x.st.s (nuFl N) 1),dU x.d N true,x.U.set i ⟨9,0,b,z⟩⟩;have hN:1<=N:=by omega
 refine h.upd (p':=⟨9,0,b,z⟩) hi (lF 1).2 (λ_ _=>rfl) (.inr (.inr (.inr (.inl ⟨rfl,.inr (.inr (.inr (.inl rfl))),ht⟩)))) (dJ h hi ahH (SF 1)) (λj hj e hw=>absurd hw (oth ht j hj e)) (λ_=>by show ldW (ae _ _ _).W _≠0;rw[(lF 1).1,if_pos rfl];decide) (HF 1) (λI=>by unfold dF at I;simp at I) (λj hj e h0 h9=>(Lk ht j hj e h0 h9).elim) (λ_ _=>?_) (λ_ e=>by simp at e);exact⟨⟨rfl,rfl,hN,rfl⟩,λe=>by simp[dU]at e,λj hj _=>Nat.zero_le _⟩
def RsI.s9(h:RsI c n N ml x)(y:cK c n N ml)(l:NuL c N x.st.s.W)(hB:CoB c B x.st)(KC:40<=B)(KD:B<=1000000000000){i:Nat}(hi:i<n)(b z:Int)(hp:(⟨9,0,b,z⟩:Sp)=sv x.U i)(ht:(sv x.st.T i).pc=10):RsI c n N ml (a7 c N x i):=by
 refine kM ?_;intro hn Kw hk E' Lc oth Lk bA bW wA wW lA lW lF fA fW HA HW HF SF mS lS Km tS aS;obtain⟨⟨q1,Y,q3,q4⟩,q5,q6⟩:=Lc rfl rfl;have Nb:=E' ⟨rfl,.inr (.inl rfl)⟩;have V:=gZ x.st.s x.d;have hs:=svS (show i<x.U.length by rw[h.lU];exact hi)
 have nr:∀H j,dF (sv (x.U.set i ⟨H,0,b,z⟩) j)->j≠i/\dF (sv x.U j):=λH j I=>by
  rw[hs]at I;split at I;.unfold dF at I;simp at I
  .rename_i e;exact⟨e,I⟩
 have go:∀(H:Int) (d':Dr),(H=9\/H=10\/H=5)->(H=9->Ag c n N d' x.st.s.W (x.U.set i ⟨H,0,b,z⟩))->(H=10->∀j,j<n->j≠i->¬dF (sv x.U j))->RsI c n N ml ⟨onA x.st (aj x.st.s x.d).1,d',x.U.set i ⟨H,0,b,z⟩⟩:=λH d' Ki o9 Rz=>by
  refine h.upd (p':=⟨H,0,b,z⟩) hi (nD h y V) (λ_ _=>rfl) (by rcases Ki with rfl|rfl|rfl;exact .inr (.inr (.inr (.inl ⟨rfl,.inr (.inr (.inr (.inl rfl))),ht⟩)));exact .inr (.inr (.inr (.inl ⟨rfl,.inr (.inr (.inr (.inr (.inl rfl)))),ht⟩)));exact .inr (.inr (.inr (.inl ⟨rfl,.inl rfl,ht⟩)))) (dJ h hi ?_ (λq _=>by show ldW (aj _ _).1.W q=_;rw[V])) (λj hj _ hw=>by show ldW (aj _ _).1.W _≠0;rw[V];exact h.fl j hj hw) (λ_=>by show ldW (aj _ _).1.W _≠0;rw[V];exact Nb) (λa _=>by show _<=ldW (aj _ _).1.W _;rw[V];exact Int.le_refl _) (λI=>by unfold dF at I;simp at I) (λj hj e h0 h9=>(Lk ht j hj e h0 h9).elim) (λ_ h9=>?_) (λ_ h10=>Rz h10);.rw[<-hp,lQ ahC,lQ ahC]
  .show Ag c n N d' (aj _ _).1.W _;rw[V];exact o9 h9
 show RsI c n N ml ⟨onA x.st (aj x.st.s x.d).1,(aj x.st.s x.d).2.1,x.U.set i ⟨if (aj x.st.s x.d).2.2=false then 9 else if (9:Int)=6 then 8 else if (aj x.st.s x.d).2.1.clear=true then 10 else 5,0,b,z⟩⟩;by_cases NX:x.d.second=true
 .have e1:aj x.st.s x.d=(af x.st.s (gaA x.d.at_),dS x.st.s x.d):=by unfold aj;rw[q1,NX];rfl
  have e2:(aj x.st.s x.d).2=dS x.st.s x.d:=by rw[e1]
  rw[e2];unfold dS;by_cases O:ldW x.st.s.W (gaA x.d.at_)=x.d.o
  .rw[if_neg (by simpa using O)];have hg:=h.g x.d.at_ q3;have WQ:=q5 NX;have Wl:gX c n x.U x.d.at_=0:=by omega
   have ND:∀j,j<n->dF (sv x.U j)->c.node j≠x.d.at_:=λj hj I e=>by
    have:0<gX c n x.U x.d.at_:=jH (P:=λj=>decide (c.node j=x.d.at_)&&fI (sv x.U j)) hj (by
     simp only[Bool.and_eq_true,decide_eq_true_eq]
     exact⟨e,EF ⟨I.1,.inr I.2⟩⟩)
    omega
   by_cases Pj:x.d.at_+1=x.d.lim;.rw[if_pos Pj];refine go 10 _ ahB (λe=>by simp at e) (λ_ j hj e I=>?_);have h1:=q6 j hj I;have h2:=ND j hj I;have h3:=Kw j hj;omega
   .rw[if_neg Pj];refine go 9 _ ahB (λ_=>⟨⟨q1,Y,by show x.d.at_+1<N;omega,q4⟩,λe=>by simp at e,λj hj I=>?_⟩) (λe=>by simp at e);exact acs
  .rw[if_pos O,if_pos Y];exact go 5 _ ahB (λe=>by simp at e) (λe=>by simp at e)
 .refine ajI ?_;intro e1 e2;exact go 9 _ ahB (λ_=>⟨⟨q1,Y,q3,q4⟩,λ_=>Int.le_refl _,λj hj I=>q6 j hj (nr 9 j I).2⟩) (λe=>by simp at e)
def RsI.s12(h:RsI c n N ml x)(y:cK c n N ml)(l:NuL c N x.st.s.W)(hB:CoB c B x.st)(H:40<=B)(O:B<=1000000000000){i:Nat}(hi:i<n)(b z:Int)(hp:(⟨12,0,b,z⟩:Sp)=sv x.U i)(ht:(sv x.st.T i).pc=10):RsI c n N ml (a7 c N x i):=by
 refine kM ?_;intro hn Kw hk E' Lc oth Lk bA bW wA wW lA lW lF fA fW HA HW HF SF mS lS Km tS aS;show RsI c n N ml ⟨aA (onA x.st (ae x.st.s (nuFl N) 0)) i,x.d,x.U.set i ⟨13,0,b,z⟩⟩;refine aj3 ?_;intro hm hs QY;refine h.upd (p':=⟨13,0,b,z⟩) hi hm (λj hj=>(fd (st:=onA x.st (ae x.st.s (nuFl N) 0)) (lF 0).2.v hi).1 hj) (.inr (.inr (.inr (.inr ⟨rfl,rfl,by omega⟩)))) ?_ (λj hj e hw=>absurd hw (oth ht j hj e)) (λhw=>by unfold gN at hw;simp at hw) (λa ha=>?_) (λI=>by unfold dF at I;simp at I) (λ_ _ _ _ _=>rfl) (λ_ e=>by simp at e) (λ_ e=>by simp at e);.show ∀a,a<N->ldW (aA _ i).s.W _=_;rw[hs];exact dJ h hi ahH (SF 0)
 .show _<=ldW (aA _ i).s.W _;rw[hs];exact HF 0 a ha
def RsI.s13(h:RsI c n N ml x)(y:cK c n N ml)(l:NuL c N x.st.s.W)(hB:CoB c B x.st)(O:40<=B)(V:B<=1000000000000){i:Nat}(hi:i<n)(b z:Int)(hp:(⟨13,0,b,z⟩:Sp)=sv x.U i)(ht:10<(sv x.st.T i).pc):RsI c n N ml (a7 c N x i):=by
 refine kM ?_;intro hn Kw hk E' Lc oth Lk bA bW wA wW lA lW lF fA fW HA HW HF SF mS lS Km tS aS;have a1:=aS.2 ht;show RsI c n N ml ⟨ak c x.st i,x.d,x.U.set i ⟨if bv (sv x.st.T i) (sv (ak c x.st i).T i)then 0 else 13,0,b,z⟩⟩;rw[a1.2];by_cases H:(sv (ak c x.st i).T i).pc=0;.rw[decide_eq_true H];exact h.upd (p':=⟨0,0,b,z⟩) hi mS tS (.inl ⟨rfl,by omega⟩) (dJ h hi ahH (λq hq=>Km q ahB)) (λj hj _ hw=>by rw[Km _ (Int.le_refl _)];exact h.fl j hj hw) (λhw=>by unfold gN at hw;simp at hw) (λa ha=>by rw[Km _ ahJ];exact Int.le_refl _) (λI=>by unfold dF at I;simp at I) (λ_ _ _ _ _=>rfl) (λ_ e=>by simp at e) (λ_ e=>by simp at e)
 .rw[decide_eq_false H];have Y:=a1.1;exact h.upd (p':=⟨13,0,b,z⟩) hi mS tS (.inr (.inr (.inr (.inr ⟨rfl,rfl,by omega⟩)))) (dJ h hi ahO (λq hq=>Km q ahB)) (λj hj _ hw=>by rw[Km _ (Int.le_refl _)];exact h.fl j hj hw) (λhw=>by unfold gN at hw;simp at hw) (λa ha=>by rw[Km _ ahJ];exact Int.le_refl _) (λI=>by unfold dF at I;simp at I) (λ_ _ _ _ _=>rfl) (λ_ e=>by simp at e) (λ_ e=>by simp at e)
def RsI.step(h:RsI c n N ml x)(y:cK c n N ml)(l:NuL c N x.st.s.W)(hB:CoB c B x.st)(V:40<=B)(Y:B<=1000000000000){i:Nat}(hi:i<n):RsI c n N ml (a7 c N x i):=by
 have hk:=h.k i hi;obtain⟨p,I⟩:=LE (sv x.U i);rw[<-I]at hk;by_cases O:p.pc=0\/p.pc=10;.unfold a7;rw[<-I,if_pos O];exact h
 unfold iy at hk;obtain⟨pc,u,b,z⟩:=p;simp only at hk O;rcases hk with⟨q1,q2⟩|⟨rfl,q2,H⟩|⟨rfl,rfl,H⟩|⟨rfl,q2,H⟩|⟨rfl,rfl,H⟩
 .exact absurd (.inl q1) O
 .rcases q2 with rfl|rfl|rfl|rfl
  .exact h.s1 y l hB V Y hi b z I H
  .exact h.s2 y l hB V Y hi b z I H
  .exact absurd (.inr rfl) O
  .exact h.s11 y l hB V Y hi b z I H
 .exact h.s7 y l hB V Y hi b z I H
 .rcases q2 with rfl|rfl|rfl|rfl|rfl|rfl
  .exact h.s5 y l hB V Y hi b z I H
  .exact h.s6 y l hB V Y hi b z I H
  .exact h.s8 y l hB V Y hi b z I H
  .exact h.s9 y l hB V Y hi b z I H
  .exact absurd (.inr rfl) O
  .exact h.s12 y l hB V Y hi b z I H
 .exact h.s13 y l hB V Y hi b z I H
end
end
section
open Go Go.RowKit
section
variable{c:CoC}{x:Nu}{st:Co}
def zx(h:bO c n L B o x.st)(k:kZ c n N L)(hB:40<=B)(V:B<=1000000000000){i:Nat}(hi:i<n)(p:Sp):bO c n L (B+4) (o+1) (fu c N x i p).1:=by
 refine ajl ?_;intro LZ Pm Kh;have Y:∀{st'},bO c n L (B+2) (o+1) st'->bO c n L (B+4) (o+1) (bC c st' i):=λ{st'} q=>by exact ab0
 have I:∀{st'},bO c n L (B+2) (o+1) st'->bO c n L (B+4) (o+1) (aA st' i):=λ{st'} q=>by exact ab1
 have H:bO c n L (B+4) (o+1) (onA x.st (aj x.st.s x.d).1):=h.on ahB ((h.bd.w.mono ahB).same (gZ _ _)) (wg _ _);unfold fu;split
 .split;.exact ab2
  split;.exact(Pm _).mono ahB
  .exact ab2
 split;.exact ab3
 split;.exact I (Kh _ _ ahB)
 split;.exact ab3
 split;.exact(Kh _ _ ahB).mono ahB
 split;.exact(Kh _ _ ahB).mono ahB
 .exact H
def zy(h:bO c n L B o x.st)(k:kZ c n N L)(I:40<=B)(H:B<=1000000000000){i:Nat}(hi:i<n):bO c n L (B+4) (o+1) (a7 c N x i).st:=by
 unfold a7;split;.exact h.up ahB ahB
 .exact zx h k I H hi _
structure RsS(c:CoC)(n N L:Nat)(ml:Nat->Nat)(B:Int)(x:Nu):Prop where
 i:RsI c n N ml x
 ok:bO c n L B x.st.s.ops x.st
 dok:x.d.busy=true->x.d.at_<N/\x.d.lim=N
def DP{d:Dr}(h:1<=N)(b:Bool):(dU d N b).busy=true->(dU d N b).at_<N/\(dU d N b).lim=N:=λ_=>⟨h,rfl⟩
def Bk{d:Dr}{s:Ar}(h:d.busy=true->d.at_<N/\d.lim=N):(aj s d).2.1.busy=true->(aj s d).2.1.at_<N/\(aj s d).2.1.lim=N:=by
 unfold aj;split
 .rename_i hb;have:=h hb;split
  .show(dS s d).1.busy=true->(dS s d).1.at_<N/\(dS s d).1.lim=N;unfold dS;split
   .split;.intro e;simp at e
    .intro _;exact this
   .split;.intro e;simp at e
    .intro _;simp only;omega
  .intro _;exact this
 .exact h
def Bj{c:CoC}{x:Nu}(h:x.d.busy=true->x.d.at_<N/\x.d.lim=N)(hN:1<=N)(i:Nat)(p:Sp):(fu c N x i p).2.1.busy=true->(fu c N x i p).2.1.at_<N/\(fu c N x i p).2.1.lim=N:=by unfold fu;(repeat' split)<;>first|exact h|exact DP hN _|exact Bk h
def FY{c:CoC}{x:Nu}(h:x.d.busy=true->x.d.at_<N/\x.d.lim=N)(hN:1<=N)(i:Nat):(a7 c N x i).d.busy=true->(a7 c N x i).d.at_<N/\(a7 c N x i).d.lim=N:=by
 unfold a7;split;.exact h
 .exact Bj h hN _ _
def xQ(c:CoC)(x:Nu)(i:Nat)(r:Bool):(cH c x i r).d=x.d:=by unfold cH;(repeat' split)<;>rfl
def zp(x:Nu)(i:Nat):(aE x i).d=x.d:=by unfold aE;split<;>rfl
def sA(c:CoC)(N:Nat)(x:Nu)(kd i:Int):Nu:=
 if okI x.U i then if kd=0 then a7 c N x i.toNat else if kd=1 then cH c x i.toNat false else if kd=2 then aE x i.toNat else if kd=3 then cH c x i.toNat true else x else x
def RsS.act(h:RsS c n N L ml B x)(k:NuK c n N L ml)(H:40<=B)(I:B<=1000000000000)(kd i:Int):RsS c n N L ml (B+4) (sA c N x kd i)/\(sA c N x kd i).st.s.ops<=x.st.s.ops+1/\(kd≠0->(sA c N x kd i).st.s.ops=x.st.s.ops):=by
  have same:RsS c n N L ml (B+4) x:=⟨h.i,h.ok.mono ahB,h.dok⟩;unfold sA;split
  . rename_i O;have hi:i.toNat<n:=(by obtain⟨V,h1⟩:=O;have:=h.i.lU;omega);split;. rename_i k0;have q:=zy h.ok k.w H I hi;refine⟨⟨h.i.step k.y ⟨k.tg,by rw[h.ok.len];exact k.len⟩ h.ok.bd H I hi,⟨q.bd,q.v,q.len,Nat.le_refl _⟩,FY h.dok k.N1 _⟩,q.ops,λe=>absurd k0 e⟩
    split;. have q:=lJ h.ok k.w H hi false;refine⟨⟨h.i.ask k.y hi false,by rw[q.2];exact q.1,by rw[xQ];exact h.dok⟩,by rw[q.2];omega,λ_=>by rw[q.2]⟩
    split;. have e:=kX x i.toNat;refine⟨⟨h.i.leave hi,by rw[e];exact same.ok,by rw[zp];exact h.dok⟩,by rw[e];omega,λ_=>by rw[e]⟩
    split;. have q:=lJ h.ok k.w H hi true;refine⟨⟨h.i.ask k.y hi true,by rw[q.2];exact q.1,by rw[xQ];exact h.dok⟩,by rw[q.2];omega,λ_=>by rw[q.2]⟩
    . exact⟨same,by omega,λ_=>rfl⟩
  . exact⟨same,by omega,λ_=>rfl⟩
end
section
variable{s:Ar}
def J3(hc:a5 P T=0)(LG:1<=kg/\kg<=5)(Y:1<=kl/\kl<=5)(hp:1<=par/\par<=4)(hs:s.W=[]):RsS (fm kg kl par bud P T (smA s (ac P).length)) T.length (ac P).length (bG kg kl par P T (smA s (ac P).length)).s.W.length (mtQ P T) 40 ⟨bG kg kl par P T (smA s (ac P).length),dr0,List.replicate T.length Sp.zero⟩/\(bG kg kl par P T (smA s (ac P).length)).s.ops<=s.ops+40:=by
  refine ajL ?_;intro hz Pb mT;have hw:∀y:Int,y<=((smA s (ac P).length).W.length:Int)->ldW (bG kg kl par P T (smA s (ac P).length)).s.W y=0:=λy hy=>by exact ab4
  have h:∀i,sv (List.replicate T.length Sp.zero) i=Sp.zero:=svR _;refine⟨⟨⟨xN hc LG Y hp Pb,by simp,λi hi=> .inl ⟨?_,?_⟩,λa V=>?_,λi hi hw=>?_,λi hi h0 O=>?_,λi hi h0 O=>?_⟩,⟨mT.bd,mT.v,mT.len,Nat.le_refl _⟩,λe=>by simp[dr0]at e⟩,mT.ops⟩;. show(sv (List.replicate T.length Sp.zero) i).pc=0;rw[h];rfl
  . show(sv (List.replicate T.length Sp.zero) i).pc=0;rw[h];rfl
  . have hc0:gX (fm kg kl par bud P T (smA s (ac P).length)) T.length (List.replicate T.length Sp.zero) a=0:=(by unfold gX jo;refine List.countP_eq_zero.2 (λj _=>?_);rw[h];simp[fI,Sp.zero]);show ldW _ _=ldW _ _+((gX _ _ (List.replicate T.length Sp.zero) a:Nat):Int);rw[hc0];have g1:=eY V;have g2:=bH V;unfold nuFl at g1 g2;have hl:=hz.2;rw[hw _ ah9,hw _ ah9];rfl
  . have I:gN (sv (List.replicate T.length Sp.zero) i):=hw;rw[h]at I;unfold gN Sp.zero at I;simp at I
  . have H:(sv (List.replicate T.length Sp.zero) i).pc=9:=O;rw[h]at H;simp[Sp.zero]at H
  . have H:(sv (List.replicate T.length Sp.zero) i).pc=10:=O;rw[h]at H;simp[Sp.zero]at H
end
end
section
open Go
variable{p:Sp}
section
variable{c:CoC}{x:Nu}
def rQ(h:¬(p.a=1/\(p.pc=3\/p.pc=4\/p.pc=10\/p.pc=11))):fJ p=false:=decide_eq_false h
def EG(h:p.a=1/\(p.pc=3\/p.pc=4\/p.pc=10\/p.pc=11)):fJ p=true:=decide_eq_true h
def JF(h:¬(p.a=0/\(p.pc=7\/p.pc=9\/p.pc=10\/p.pc=12))):wrC p=false:=decide_eq_false h
def WsI.ask(h:WsI c n N ml x){i:Nat}(hi:i<n)(r:Bool):WsI c n N ml (fi x i r):=by
 unfold fi;split
 .rename_i V;have O:=h.k i hi;have H:(sv x.st.T i).pc=0:=by unfold ia at O;omega
  have hb:fJ (sv x.U i)=false:=rQ ahB;have hc:wrC (sv x.U i)=false:=JF ahB;cases r;.exact h.upd (p':=⟨5,0,0,0⟩) hi h.m (λ_ _=>rfl) (.inr (.inr (.inl ⟨rfl,rfl,H⟩))) (dK h hi ah8 (λ_ _=>rfl)) (eH h hi (by rw[hc];rfl) rfl) (λ_ _=>Int.le_refl _) (λI=>by unfold dB at I;simp at I) (λ_ _ _ _ _=>rfl) (λ_ e=>by simp at e) (λ_ e=>by simp at e)
  .exact h.upd (p':=⟨1,1,0,0⟩) hi h.m (λ_ _=>rfl) (.inr (.inl ⟨rfl,.inl rfl,H⟩)) (dK h hi ah8 (λ_ _=>rfl)) (eH h hi (by rw[hc];rfl) rfl) (λ_ _=>Int.le_refl _) (λI=>by unfold dB at I;simp at I) (λ_ _ _ _ _=>rfl) (λe=>by simp at e) (λe=>by simp at e)
 .exact h
def WsI.leave(h:WsI c n N ml x){i:Nat}(hi:i<n):WsI c n N ml (aE x i):=by
 unfold aE;split
 .rename_i h10;have V:=h.k i hi;obtain⟨p,hp⟩:=LE (sv x.U i);rw[<-hp]at V h10 ⊢;have O:(p.a=1/\(sv x.st.T i).pc=0)\/(p.a=0/\(sv x.st.T i).pc=10):=by unfold ia at V;omega
  obtain⟨pc,u,b,z⟩:=p;simp only at h10 O;subst h10;rcases O with⟨rfl,H⟩|⟨rfl,H⟩
  .exact h.upd (p':=⟨11,1,b,z⟩) hi h.m (λ_ _=>rfl) (.inr (.inl ⟨rfl,.inr (.inr (.inr (.inr (.inr rfl)))),H⟩)) (dK h hi ahH (λ_ _=>rfl)) (eH h hi ahH rfl) (λ_ _=>Int.le_refl _) (λI=> .inl (by rw[<-hp];exact⟨rfl,.inl rfl⟩)) (λ_ _ _ _ _=>rfl) (λe=>by simp at e) (λe=>by simp at e)
  .exact h.upd (p':=⟨12,0,b,z⟩) hi h.m (λ_ _=>rfl) (.inr (.inr (.inr (.inr (.inl ⟨rfl,.inr (.inr rfl),H⟩))))) (dK h hi ahH (λ_ _=>rfl)) (eH h hi ahH rfl) (λ_ _=>Int.le_refl _) (λI=>by unfold dB at I;simp at I) (λ_ _ _ _ _=>rfl) (λ_ e=>by simp at e) (λ_ e=>by simp at e)
 .exact h
def kN{P:Prop}(q:Q)(h:Kq Q->P:=by
    intro q_
    have hn:=(y.nd i hi).1
    have Kw:∀j,j<n->c.node j<N:=λj hj=>(y.nd j hj).1
    have hk:=h.k i hi
    have Lc:=h.dr i hi
    have oth:(sv x.st.T i).pc=10->∀j,j<n->j≠i->¬E2 (sv x.U j):=λht j hj e hw=>e (h.one y hj hi (Fu (h.k j hj) hw) ht)
    refine aj1 ?_
    intro Lk bA bW
    have bF:=hB.w.ld ahB (nuFl N)
    refine ajh ?_
    intro wA wW
    have lA:=rr h y l (z:=gaA (c.node i)) ⟨(eY hn).1,by have:=(eY hn).2;omega⟩ (ldW x.st.s.W (gaA (c.node i))+1) (s':=addA x.st.s (gaA (c.node i)) 1) (by rw[d9,wA])
    have lW:=rr h y l (z:=gaW (c.node i)) ⟨(bH hn).1,by have:=(bH hn).2;omega⟩ (ldW x.st.s.W (gaW (c.node i))+1) (s':=addA x.st.s (gaW (c.node i)) 1) (by rw[d9,wW])
    have lF:∀v:Int,(v=1\/v= -1)->_:=λv O=>rr h y l (z:=nuFl N) ⟨by unfold nuFl;omega,Int.le_refl _⟩ (ldW x.st.s.W (nuFl N)+v) (s':=addA x.st.s (nuFl N) v) (by rw[d9,IntWalk.i64_in _ ahB])
    refine ai2 ?_
    intro fA fW HA
    have HW:∀a,a<N->ldW x.st.s.W (gaW a)<=ldW (addA x.st.s (gaW (c.node i)) 1).W (gaW a):=λa _=>by
      exact abZ
    have HF:∀v:Int,(v=1\/v= -1)->∀a,a<N->ldW x.st.s.W (gaW a)<=ldW (addA x.st.s (nuFl N) v).W (gaW a):=λv O a ha=>by rw[(lF v O).1,if_neg ahJ];exact Int.le_refl _
    have SF:∀v:Int,(v=1\/v= -1)->∀q,q<nuFl N->ldW (addA x.st.s (nuFl N) v).W q=ldW x.st.s.W q:=λv O q hq=>by rw[(lF v O).1,if_neg ahB]
    have eL:(af x.st.s (nuFl N)).W=x.st.s.W:=aQ _ _
    have mS:=h.m.step y hB ahB ahB hi
    have lS:=h.m.stepLow y hB ahB ahB hi
    have Km:∀q,q<=nuFl N->ldW (ak c x.st i).s.W q=ldW x.st.s.W q:=λq hq=>lS q aiG
    have tS:∀j,j≠i->sv (ak c x.st i).T j=sv x.st.T j:=λj hj=>ot h.m.v hi hj
    have aS:=mx h.m.v hi
    unfold bj
    rw[<-hp]
    rw[<-hp]at hk Lc
    rw[if_neg ahC]
    revert hn Kw hk Lc oth Lk bA bW bF wA wW lA lW lF fA fW HA HW HF SF eL mS lS Km tS aS
    exact q_.o):P:=h ⟨q⟩
def WsI.s1(h:WsI c n N ml x)(y:cK c n N ml)(l:NuL c N x.st.s.W)(hB:CoB c B x.st)(V:40<=B)(Y:B<=1000000000000){i:Nat}(hi:i<n)(b z:Int)(hp:(⟨1,1,b,z⟩:Sp)=sv x.U i)(ht:(sv x.st.T i).pc=0):WsI c n N ml (bj c N x i):=by
 refine kN ?_;intro hn Kw hk Lc oth Lk bA bW bF wA wW lA lW lF fA fW HA HW HF SF eL mS lS Km tS aS;show WsI c n N ml ⟨onA x.st (af x.st.s (nuFl N)),x.d,x.U.set i ⟨if ldW x.st.s.W (nuFl N)=0 then 2 else 1,1,b,z⟩⟩;by_cases H:ldW x.st.s.W (nuFl N)=0;.rw[if_pos H];exact h.upd (p':=⟨2,1,b,z⟩) hi (lC h y eL) (λ_ _=>rfl) (.inr (.inl ⟨rfl,.inr (.inl rfl),ht⟩)) (dK h hi ahH (λq _=>by show ldW (af _ _).W q=_;rw[eL])) (eH h hi ahH aip) (λa _=>by show _<=ldW (af _ _).W _;rw[eL];exact Int.le_refl _) (λI=>by unfold dB at I;simp at I) (λ_ _ _ _ _=>rfl) (λe=>by simp at e) (λe=>by simp at e)
 .rw[if_neg H];exact h.upd (p':=⟨1,1,b,z⟩) hi (lC h y eL) (λ_ _=>rfl) (.inr (.inl ⟨rfl,.inl rfl,ht⟩)) (dK h hi ahO (λq _=>by show ldW (af _ _).W q=_;rw[eL])) (eH h hi ahO aip) (λa _=>by show _<=ldW (af _ _).W _;rw[eL];exact Int.le_refl _) (λI=>by unfold dB at I;simp at I) (λ_ _ _ _ _=>rfl) (λe=>by simp at e) (λe=>by simp at e)
def WsI.s3(h:WsI c n N ml x)(y:cK c n N ml)(l:NuL c N x.st.s.W)(hB:CoB c B x.st)(V:40<=B)(Y:B<=1000000000000){i:Nat}(hi:i<n)(b z:Int)(hp:(⟨3,1,b,z⟩:Sp)=sv x.U i)(ht:(sv x.st.T i).pc=0):WsI c n N ml (bj c N x i):=by
 refine kN ?_;intro hn Kw hk Lc oth Lk bA bW bF wA wW lA lW lF fA fW HA HW HF SF eL mS lS Km tS aS;show WsI c n N ml ⟨onA x.st (af x.st.s (nuFl N)),x.d,x.U.set i ⟨if ldW x.st.s.W (nuFl N)=0 then 10 else 4,1,b,z⟩⟩;by_cases H:ldW x.st.s.W (nuFl N)=0;.rw[if_pos H];exact h.upd (p':=⟨10,1,b,z⟩) hi (lC h y eL) (λ_ _=>rfl) (.inr (.inl ⟨rfl,.inr (.inr (.inr (.inr (.inl rfl)))),ht⟩)) (dK h hi ahH (λq _=>by show ldW (af _ _).W q=_;rw[eL])) (eH h hi ahH aip) (λa _=>by show _<=ldW (af _ _).W _;rw[eL];exact Int.le_refl _) (λ_=> .inr (λj hj _ hw=>h.none H hj ⟨hw.1,.inr hw.2⟩)) (λ_ _ _ _ _=>rfl) (λe=>by simp at e) (λe=>by simp at e)
 .rw[if_neg H];exact h.upd (p':=⟨4,1,b,z⟩) hi (lC h y eL) (λ_ _=>rfl) (.inr (.inl ⟨rfl,.inr (.inr (.inr (.inl rfl))),ht⟩)) (dK h hi ahH (λq _=>by show ldW (af _ _).W q=_;rw[eL])) (eH h hi ahH aip) (λa _=>by show _<=ldW (af _ _).W _;rw[eL];exact Int.le_refl _) (λI=>by unfold dB at I;simp at I) (λ_ _ _ _ _=>rfl) (λe=>by simp at e) (λe=>by simp at e)
def WsI.s2(h:WsI c n N ml x)(y:cK c n N ml)(l:NuL c N x.st.s.W)(hB:CoB c B x.st)(H:40<=B)(V:B<=1000000000000){i:Nat}(hi:i<n)(b z:Int)(hp:(⟨2,1,b,z⟩:Sp)=sv x.U i)(ht:(sv x.st.T i).pc=0):WsI c n N ml (bj c N x i):=by refine kN ?_;intro hn Kw hk Lc oth Lk bA bW bF wA wW lA lW lF fA fW HA HW HF SF eL mS lS Km tS aS;show WsI c n N ml ⟨onA x.st (addA x.st.s (gaA (c.node i)) 1),x.d,x.U.set i ⟨3,1,b,z⟩⟩;exact h.upd (p':=⟨3,1,b,z⟩) hi lA.2 (λ_ _=>rfl) (.inr (.inl ⟨rfl,.inr (.inr (.inl rfl)),ht⟩)) (If h Kw hi ahH rfl lA.1) (eH h hi ahH (fA)) HA (λI=>by unfold dB at I;simp at I) (λ_ _ _ _ _=>rfl) (λe=>by simp at e) (λe=>by simp at e)
def WsI.s4(h:WsI c n N ml x)(y:cK c n N ml)(l:NuL c N x.st.s.W)(hB:CoB c B x.st)(H:40<=B)(V:B<=1000000000000){i:Nat}(hi:i<n)(b z:Int)(hp:(⟨4,1,b,z⟩:Sp)=sv x.U i)(ht:(sv x.st.T i).pc=0):WsI c n N ml (bj c N x i):=by refine kN ?_;intro hn Kw hk Lc oth Lk bA bW bF wA wW lA lW lF fA fW HA HW HF SF eL mS lS Km tS aS;show WsI c n N ml ⟨onA x.st (addA x.st.s (gaW (c.node i)) 1),x.d,x.U.set i ⟨1,1,b,z⟩⟩;exact h.upd (p':=⟨1,1,b,z⟩) hi lW.2 (λ_ _=>rfl) (.inr (.inl ⟨rfl,.inl rfl,ht⟩)) (BM h Kw hi ahH rfl lW.1) (eH h hi ahH (fW)) HW (λI=>by unfold dB at I;simp at I) (λ_ _ _ _ _=>rfl) (λe=>by simp at e) (λe=>by simp at e)
def WsI.s11(h:WsI c n N ml x)(y:cK c n N ml)(l:NuL c N x.st.s.W)(hB:CoB c B x.st)(H:40<=B)(V:B<=1000000000000){i:Nat}(hi:i<n)(b z:Int)(hp:(⟨11,1,b,z⟩:Sp)=sv x.U i)(ht:(sv x.st.T i).pc=0):WsI c n N ml (bj c N x i):=by refine kN ?_;intro hn Kw hk Lc oth Lk bA bW bF wA wW lA lW lF fA fW HA HW HF SF eL mS lS Km tS aS;show WsI c n N ml ⟨onA x.st (addA x.st.s (gaW (c.node i)) 1),x.d,x.U.set i ⟨0,1,b,z⟩⟩;exact h.upd (p':=⟨0,1,b,z⟩) hi lW.2 (λ_ _=>rfl) (.inl ⟨rfl,ht⟩) (BM h Kw hi ahH rfl lW.1) (eH h hi ahH (fW)) HW (λI=>by unfold dB at I;simp at I) (λ_ _ _ _ _=>rfl) (λe=>by simp at e) (λe=>by simp at e)
def WsI.s5(h:WsI c n N ml x)(y:cK c n N ml)(l:NuL c N x.st.s.W)(hB:CoB c B x.st)(V:40<=B)(Y:B<=1000000000000){i:Nat}(hi:i<n)(b z:Int)(hp:(⟨5,0,b,z⟩:Sp)=sv x.U i)(ht:(sv x.st.T i).pc=0):WsI c n N ml (bj c N x i):=by
 refine kN ?_;intro hn Kw hk Lc oth Lk bA bW bF wA wW lA lW lF fA fW HA HW HF SF eL mS lS Km tS aS;show WsI c n N ml ⟨bC c (onA x.st (addA x.st.s (nuFl N) (1))) i,x.d,x.U.set i ⟨7,0,b,z⟩⟩;have hm:=(lF _ (show(1:Int)=1\/(1:Int)= -1 by omega)).2.ask y hi;have hs:=gI c (onA x.st (addA x.st.s (nuFl N) (1))) i;have H:=Kg (c:=c) (st:=(onA x.st (addA x.st.s (nuFl N) (1)))) (j:=i) (lF _ (show(1:Int)=1\/(1:Int)= -1 by omega)).2.v hi;have QY:(sv (bC c (onA x.st (addA x.st.s (nuFl N) (1))) i).T i).pc=1:=H.2 ht;refine h.upd (p':=⟨7,0,b,z⟩) hi hm (λj hj=>(Kg (c:=c) (st:=(onA x.st (addA x.st.s (nuFl N) (1)))) (lF _ (show(1:Int)=1\/(1:Int)= -1 by omega)).2.v hi).1 hj) (.inr (.inr (.inr (.inl ⟨rfl,rfl,by omega,by omega⟩)))) ?_ ?_ (λa ha=>?_) (λI=>by unfold dB at I;simp at I) (λ_ _ _ _ _=>rfl) (λ_ e=>by simp at e) (λ_ e=>by simp at e);.show ∀a,a<N->ldW (bC c (onA x.st (addA x.st.s (nuFl N) (1))) i).s.W _=_;rw[hs];exact(dK h hi ahH (SF _ (show(1:Int)=1\/(1:Int)= -1 by omega)))
 .show ldW (bC c (onA x.st (addA x.st.s (nuFl N) (1))) i).s.W _=_;rw[hs];exact(JQ h hi ahH rfl (by show ldW (addA _ _ _).W _=_;rw[(lF _ (show(1:Int)=1\/(1:Int)= -1 by omega)).1,if_pos rfl]))
 .show _<=ldW (bC c (onA x.st (addA x.st.s (nuFl N) (1))) i).s.W _;rw[hs];exact HF _ (show(1:Int)=1\/(1:Int)= -1 by omega) a ha
def WsI.s12(h:WsI c n N ml x)(y:cK c n N ml)(l:NuL c N x.st.s.W)(hB:CoB c B x.st)(V:40<=B)(Y:B<=1000000000000){i:Nat}(hi:i<n)(b z:Int)(hp:(⟨12,0,b,z⟩:Sp)=sv x.U i)(ht:(sv x.st.T i).pc=10):WsI c n N ml (bj c N x i):=by
 refine kN ?_;intro hn Kw hk Lc oth Lk bA bW bF wA wW lA lW lF fA fW HA HW HF SF eL mS lS Km tS aS;show WsI c n N ml ⟨aA (onA x.st (addA x.st.s (nuFl N) (-1))) i,x.d,x.U.set i ⟨13,0,b,z⟩⟩;have hm:=(lF _ (show(-1:Int)=1\/(-1:Int)= -1 by omega)).2.leave y hi;have hs:=fO (onA x.st (addA x.st.s (nuFl N) (-1))) i;have H:=fd (st:=(onA x.st (addA x.st.s (nuFl N) (-1)))) (j:=i) (lF _ (show(-1:Int)=1\/(-1:Int)= -1 by omega)).2.v hi;have QY:(sv (aA (onA x.st (addA x.st.s (nuFl N) (-1))) i).T i).pc=11:=H.2 ht;refine h.upd (p':=⟨13,0,b,z⟩) hi hm (λj hj=>(fd (st:=(onA x.st (addA x.st.s (nuFl N) (-1)))) (lF _ (show(-1:Int)=1\/(-1:Int)= -1 by omega)).2.v hi).1 hj) (.inr (.inr (.inr (.inr (.inr ⟨rfl,rfl,by omega⟩))))) ?_ ?_ (λa ha=>?_) (λI=>by unfold dB at I;simp at I) (λ_ _ _ _ _=>rfl) (λ_ e=>by simp at e) (λ_ e=>by simp at e);.show ∀a,a<N->ldW (aA (onA x.st (addA x.st.s (nuFl N) (-1))) i).s.W _=_;rw[hs];exact(dK h hi ahH (SF _ (show(-1:Int)=1\/(-1:Int)= -1 by omega)))
 .show ldW (aA (onA x.st (addA x.st.s (nuFl N) (-1))) i).s.W _=_;rw[hs];exact(F5 h hi ahH rfl (by show ldW (addA _ _ _).W _=_;rw[(lF _ (show(-1:Int)=1\/(-1:Int)= -1 by omega)).1,if_pos rfl]))
 .show _<=ldW (aA (onA x.st (addA x.st.s (nuFl N) (-1))) i).s.W _;rw[hs];exact HF _ (show(-1:Int)=1\/(-1:Int)= -1 by omega) a ha
def WsI.s7(h:WsI c n N ml x)(y:cK c n N ml)(l:NuL c N x.st.s.W)(hB:CoB c B x.st)(KC:40<=B)(KD:B<=1000000000000){i:Nat}(hi:i<n)(b z:Int)(hp:(⟨7,0,b,z⟩:Sp)=sv x.U i)(ht:0<(sv x.st.T i).pc/\(sv x.st.T i).pc<10):WsI c n N ml (bj c N x i):=by
 refine kN ?_;intro hn Kw hk Lc oth Lk bA bW bF wA wW lA lW lF fA fW HA HW HF SF eL mS lS Km tS aS;have a1:=aS.1 ht;show WsI c n N ml ⟨ak c x.st i,if bv (sv x.st.T i) (sv (ak c x.st i).T i)then dU x.d N false else x.d,x.U.set i ⟨if bv (sv x.st.T i) (sv (ak c x.st i).T i)then 9 else 7,0,b,z⟩⟩;rw[a1.2];by_cases H:(sv (ak c x.st i).T i).pc=10;.rw[decide_eq_true H];refine h.upd (p':=⟨9,0,b,z⟩) (d':=dU x.d N false) hi mS tS (.inr (.inr (.inr (.inr (.inl ⟨rfl,.inl rfl,H⟩))))) (dK h hi ahH (λq hq=>Km q ahB)) (eH h hi ahH (Km _ (Int.le_refl _))) (λa ha=>by rw[Km _ ahJ];exact Int.le_refl _) (λI=>by unfold dB at I;simp at I) (λj hj e h0 h9=>?_) (λ_ _=>⟨⟨rfl,rfl,by show 1<=N;omega,rfl⟩,λe=>by simp[dU]at e,λj hj _=>Nat.zero_le _⟩) (λ_ e=>by simp at e);have h2:=(Fu (h.k j hj) ⟨h0,.inl h9⟩:_);have Y:=mS.one y hj hi (by rw[tS j e];omega) ahB;exact absurd Y e
 .rw[decide_eq_false H];exact h.upd (p':=⟨7,0,b,z⟩) hi mS tS (.inr (.inr (.inr (.inl ⟨rfl,rfl,by have V:=a1.1;omega,by have V:=a1.1;omega⟩)))) (dK h hi ahO (λq hq=>Km q ahB)) (eH h hi ahO (Km _ (Int.le_refl _))) (λa ha=>by rw[Km _ ahJ];exact Int.le_refl _) (λI=>by unfold dB at I;simp at I) (λ_ _ _ _ _=>rfl) (λ_ e=>by simp at e) (λ_ e=>by simp at e)
def WsI.s13(h:WsI c n N ml x)(y:cK c n N ml)(l:NuL c N x.st.s.W)(hB:CoB c B x.st)(V:40<=B)(Y:B<=1000000000000){i:Nat}(hi:i<n)(b z:Int)(hp:(⟨13,0,b,z⟩:Sp)=sv x.U i)(ht:10<(sv x.st.T i).pc):WsI c n N ml (bj c N x i):=by
 refine kN ?_;intro hn Kw hk Lc oth Lk bA bW bF wA wW lA lW lF fA fW HA HW HF SF eL mS lS Km tS aS;have a1:=aS.2 ht;show WsI c n N ml ⟨ak c x.st i,x.d,x.U.set i ⟨if bv (sv x.st.T i) (sv (ak c x.st i).T i)then 0 else 13,0,b,z⟩⟩;rw[a1.2];by_cases H:(sv (ak c x.st i).T i).pc=0;.rw[decide_eq_true H];exact h.upd (p':=⟨0,0,b,z⟩) hi mS tS (.inl ⟨rfl,H⟩) (dK h hi ahH (λq hq=>Km q ahB)) (eH h hi ahH (Km _ (Int.le_refl _))) (λa ha=>by rw[Km _ ahJ];exact Int.le_refl _) (λI=>by unfold dB at I;simp at I) (λ_ _ _ _ _=>rfl) (λ_ e=>by simp at e) (λ_ e=>by simp at e)
 .rw[decide_eq_false H];exact h.upd (p':=⟨13,0,b,z⟩) hi mS tS (.inr (.inr (.inr (.inr (.inr ⟨rfl,rfl,by have a2:=a1.1;omega⟩))))) (dK h hi ahO (λq hq=>Km q ahB)) (eH h hi ahO (Km _ (Int.le_refl _))) (λa ha=>by rw[Km _ ahJ];exact Int.le_refl _) (λI=>by unfold dB at I;simp at I) (λ_ _ _ _ _=>rfl) (λ_ e=>by simp at e) (λ_ e=>by simp at e)
def WsI.s9(h:WsI c n N ml x)(y:cK c n N ml)(l:NuL c N x.st.s.W)(hB:CoB c B x.st)(KC:40<=B)(KD:B<=1000000000000){i:Nat}(hi:i<n)(b z:Int)(hp:(⟨9,0,b,z⟩:Sp)=sv x.U i)(ht:(sv x.st.T i).pc=10):WsI c n N ml (bj c N x i):=by
 refine kN ?_;intro hn Kw hk Lc oth Lk bA bW bF wA wW lA lW lF fA fW HA HW HF SF eL mS lS Km tS aS;obtain⟨⟨q1,Y,q3,q4⟩,q5,q6⟩:=Lc rfl rfl;have V:=gZ x.st.s x.d;have hs:=svS (show i<x.U.length by rw[h.lU];exact hi)
 have nr:∀H j,dB (sv (x.U.set i ⟨H,0,b,z⟩) j)->j≠i/\dB (sv x.U j):=λH j I=>by
  rw[hs]at I;split at I;.unfold dB at I;simp at I
  .rename_i e;exact⟨e,I⟩
 have go:∀(H:Int) (d':Dr),(H=9\/H=10)->(H=9->Ah c n N d' x.st.s.W (x.U.set i ⟨H,0,b,z⟩))->(H=10->∀j,j<n->j≠i->¬dB (sv x.U j))->WsI c n N ml ⟨onA x.st (aj x.st.s x.d).1,d',x.U.set i ⟨H,0,b,z⟩⟩:=λH d' Ki o9 Rz=>by
  refine h.upd (p':=⟨H,0,b,z⟩) hi (lC h y V) (λ_ _=>rfl) (.inr (.inr (.inr (.inr (.inl ⟨rfl,?_,ht⟩))))) (dK h hi ?_ (λq _=>by show ldW (aj _ _).1.W q=_;rw[V])) (eH h hi ?_ (by show ldW (aj _ _).1.W _=_;rw[V])) (λa _=>by show _<=ldW (aj _ _).1.W _;rw[V];exact Int.le_refl _) (λI=>by unfold dB at I;simp at I) (λj hj e h0 h9=>(Lk ht j hj e h0 h9).elim) (λ_ h9=>?_) (λ_ h10=>Rz h10)
  .rcases Ki with rfl|rfl
   .exact .inl rfl
   .exact .inr (.inl rfl)
  .rw[<-hp,rQ ahC,rQ ahC]
  .rw[<-hp];rcases Ki with rfl|rfl<;>rfl
  .show Ah c n N d' (aj _ _).1.W _;rw[V];exact o9 h9
 show WsI c n N ml ⟨onA x.st (aj x.st.s x.d).1,(aj x.st.s x.d).2.1,x.U.set i ⟨if (aj x.st.s x.d).2.2=true then 10 else 9,0,b,z⟩⟩;by_cases NX:x.d.second=true
 .have e1:aj x.st.s x.d=(af x.st.s (gaA x.d.at_),dS x.st.s x.d):=by unfold aj;rw[q1,NX];rfl
  have e2:(aj x.st.s x.d).2=dS x.st.s x.d:=by rw[e1]
  rw[e2];unfold dS;by_cases O:ldW x.st.s.W (gaA x.d.at_)=x.d.o
  .rw[if_neg (by simpa using O)];have hg:=h.g x.d.at_ q3;have WQ:=q5 NX;have Wl:gY c n x.U x.d.at_=0:=by omega
   have ND:∀j,j<n->dB (sv x.U j)->c.node j≠x.d.at_:=λj hj I e=>by
    have:0<gY c n x.U x.d.at_:=jH (P:=λj=>decide (c.node j=x.d.at_)&&fJ (sv x.U j)) hj (by
     simp only[Bool.and_eq_true,decide_eq_true_eq]
     exact⟨e,EG ⟨I.1,.inr (.inr I.2)⟩⟩)
    omega
   by_cases Pj:x.d.at_+1=x.d.lim;.rw[if_pos Pj];refine go 10 _ (.inr rfl) (λe=>by simp at e) (λ_ j hj e I=>?_);have h1:=q6 j hj I;have h2:=ND j hj I;have h3:=Kw j hj;omega
   .rw[if_neg Pj];refine go 9 _ (.inl rfl) (λ_=>⟨⟨q1,Y,by show x.d.at_+1<N;omega,q4⟩,λe=>by simp at e,λj hj I=>?_⟩) (λe=>by simp at e);exact acs
  .rw[if_pos O,if_neg (by rw[Y];decide)];exact go 9 _ (.inl rfl) (λ_=>⟨⟨q1,Y,q3,q4⟩,λe=>by simp at e,λj hj I=>q6 j hj (nr 9 j I).2⟩) (λe=>by simp at e)
 .refine ajI ?_;intro e1 e2;exact go 9 _ (.inl rfl) (λ_=>⟨⟨q1,Y,q3,q4⟩,λ_=>Int.le_refl _,λj hj I=>q6 j hj (nr 9 j I).2⟩) (λe=>by simp at e)
def WsI.step(h:WsI c n N ml x)(y:cK c n N ml)(l:NuL c N x.st.s.W)(hB:CoB c B x.st)(V:40<=B)(Y:B<=1000000000000){i:Nat}(hi:i<n):WsI c n N ml (bj c N x i):=by
 have hk:=h.k i hi;obtain⟨p,I⟩:=LE (sv x.U i);rw[<-I]at hk;by_cases O:p.pc=0\/p.pc=10;.unfold bj;rw[<-I,if_pos O];exact h
 unfold ia at hk;obtain⟨pc,u,b,z⟩:=p;simp only at hk O;rcases hk with⟨q1,q2⟩|⟨rfl,q2,H⟩|⟨rfl,rfl,H⟩|⟨rfl,rfl,H⟩|⟨rfl,q2,H⟩|⟨rfl,rfl,H⟩
 .exact absurd (.inl q1) O
 .rcases q2 with rfl|rfl|rfl|rfl|rfl|rfl
  .exact h.s1 y l hB V Y hi b z I H
  .exact h.s2 y l hB V Y hi b z I H
  .exact h.s3 y l hB V Y hi b z I H
  .exact h.s4 y l hB V Y hi b z I H
  .exact absurd (.inr rfl) O
  .exact h.s11 y l hB V Y hi b z I H
 .exact h.s5 y l hB V Y hi b z I H
 .exact h.s7 y l hB V Y hi b z I H
 .rcases q2 with rfl|rfl|rfl
  .exact h.s9 y l hB V Y hi b z I H
  .exact absurd (.inr rfl) O
  .exact h.s12 y l hB V Y hi b z I H
 .exact h.s13 y l hB V Y hi b z I H
end
end
section
open Go Go.RowKit
section
variable{c:CoC}{x:Nu}{st:Co}
def Ab(h:bO c n L B o x.st)(k:kZ c n N L)(hB:40<=B)(Lb:B<=1000000000000){i:Nat}(hi:i<n)(p:Sp)(hf:p.a≠1->p.pc=12->1<=ldW x.st.s.W (nuFl N)):bO c n L (B+4) (o+1) (iI c N x i p).1:=by
 refine ajl ?_;intro LZ Pm Kh;have Sd:∀{st'},bO c n L (B+2) (o+1) st'->bO c n L (B+4) (o+1) (bC c st' i):=λ{st'} q=>by exact ab0
 have V:∀{st'},bO c n L (B+2) (o+1) st'->bO c n L (B+4) (o+1) (aA st' i):=λ{st'} q=>by exact ab1
 have I:bO c n L (B+4) (o+1) (onA x.st (aj x.st.s x.d).1):=h.on ahB ((h.bd.w.mono ahB).same (gZ _ _)) (wg _ _);have Y:1<=ldW x.st.s.W (nuFl N)->bO c n L (B+2) (o+1) (onA x.st (addA x.st.s (nuFl N) (-1))):=λhq=>h.on ahB ((h.bd.w.mono ahB).st (nuFl N) (ldW x.st.s.W (nuFl N)+ -1) (by have:=(h.bd.w.ld ahB (nuFl N)).2;omega) (by rw[d9,IntWalk.i64_in _ (by have:=(h.bd.w.ld ahB (nuFl N)).2;omega)])) (lE _ _ _);unfold iI;split
 .split;.exact(Pm _).mono ahB
  split;.exact ab2
  split;.exact(Pm _).mono ahB
  split;.exact ab2
  .exact ab2
 rename_i H;split;.exact Sd (LZ _)
 split;.exact ab3
 split;.exact I
 split;.rename_i YW;exact V (Y (hf H YW))
 .exact ab3
def Ac(h:bO c n L B o x.st)(k:kZ c n N L)(I:40<=B)(H:B<=1000000000000){i:Nat}(hi:i<n)(O:(sv x.U i).a≠1->(sv x.U i).pc=12->1<=ldW x.st.s.W (nuFl N)):bO c n L (B+4) (o+1) (bj c N x i).st:=by
 unfold bj;split;.exact h.up ahB ahB
 .exact Ab h k I H hi _ O
def uQ(x:Nu)(i:Nat)(r:Bool):(fi x i r).st=x.st:=by unfold fi;split<;>rfl
def WsI.f12(h:WsI c n N ml x){i:Nat}(hi:i<n):(sv x.U i).a≠1->(sv x.U i).pc=12->1<=ldW x.st.s.W (nuFl N):=λV H=>by
 have I:=h.k i hi
 have O:(sv x.U i).a=0:=by unfold ia at I;omega
 apply Classical.byContradiction
 intro Y
 have hc:=h.fl
 exact h.none ahB hi ⟨O,.inr (.inr (.inr H))⟩
structure WsS(c:CoC)(n N L:Nat)(ml:Nat->Nat)(B:Int)(x:Nu):Prop where
 i:WsI c n N ml x
 ok:bO c n L B x.st.s.ops x.st
def sB(c:CoC)(N:Nat)(x:Nu)(kd i:Int):Nu:=
 if okI x.U i then if kd=0 then bj c N x i.toNat else if kd=1 then fi x i.toNat false else if kd=2 then aE x i.toNat else if kd=3 then fi x i.toNat true else x else x
def WsS.act(h:WsS c n N L ml B x)(k:NuK c n N L ml)(I:40<=B)(H:B<=1000000000000)(kd i:Int):WsS c n N L ml (B+4) (sB c N x kd i)/\(sB c N x kd i).st.s.ops<=x.st.s.ops+1/\(kd≠0->(sB c N x kd i).st.s.ops=x.st.s.ops):=by
  have same:WsS c n N L ml (B+4) x:=⟨h.i,h.ok.mono ahB⟩;unfold sB;split
  . rename_i O;have hi:i.toNat<n:=(by obtain⟨V,h1⟩:=O;have:=h.i.lU;omega);split;. rename_i k0;have q:=Ac h.ok k.w I H hi (h.i.f12 hi);refine⟨⟨h.i.step k.y ⟨k.tg,by rw[h.ok.len];exact k.len⟩ h.ok.bd I H hi,⟨q.bd,q.v,q.len,Nat.le_refl _⟩⟩,q.ops,λe=>absurd k0 e⟩
    split;. have e:=uQ x i.toNat false;refine⟨⟨h.i.ask hi false,by rw[e];exact same.ok⟩,by rw[e];omega,λ_=>by rw[e]⟩
    split;. have e:=kX x i.toNat;refine⟨⟨h.i.leave hi,by rw[e];exact same.ok⟩,by rw[e];omega,λ_=>by rw[e]⟩
    split;. have e:=uQ x i.toNat true;refine⟨⟨h.i.ask hi true,by rw[e];exact same.ok⟩,by rw[e];omega,λ_=>by rw[e]⟩
    . exact⟨same,by omega,λ_=>rfl⟩
  . exact⟨same,by omega,λ_=>rfl⟩
end
section
variable{s:Ar}
def Ke(hc:a5 P T=0)(Y:1<=kg/\kg<=5)(V:1<=kl/\kl<=5)(hp:1<=par/\par<=4)(hs:s.W=[]):WsS (fm kg kl par bud P T (smA s (ac P).length)) T.length (ac P).length (bG kg kl par P T (smA s (ac P).length)).s.W.length (mtQ P T) 40 ⟨bG kg kl par P T (smA s (ac P).length),dr0,List.replicate T.length Sp.zero⟩/\(bG kg kl par P T (smA s (ac P).length)).s.ops<=s.ops+40:=by
  refine ajL ?_;intro hz Pb mT;have hw:∀y:Int,y<=((smA s (ac P).length).W.length:Int)->ldW (bG kg kl par P T (smA s (ac P).length)).s.W y=0:=λy hy=>by exact ab4
  have h:∀i,sv (List.replicate T.length Sp.zero) i=Sp.zero:=svR _;refine⟨⟨⟨xN hc Y V hp Pb,by simp,λi hi=> .inl ⟨?_,?_⟩,λa O=>?_,?_,λi hi h0 I=>?_,λi hi h0 I=>?_⟩,⟨mT.bd,mT.v,mT.len,Nat.le_refl _⟩⟩,mT.ops⟩;. show(sv (List.replicate T.length Sp.zero) i).pc=0;rw[h];rfl
  . show(sv (List.replicate T.length Sp.zero) i).pc=0;rw[h];rfl
  . have hc0:gY (fm kg kl par bud P T (smA s (ac P).length)) T.length (List.replicate T.length Sp.zero) a=0:=(by unfold gY jo;refine List.countP_eq_zero.2 (λj _=>?_);rw[h];simp[fJ,Sp.zero]);show ldW _ _=ldW _ _+((gY _ _ (List.replicate T.length Sp.zero) a:Nat):Int);rw[hc0];have g1:=eY O;have g2:=bH O;unfold nuFl at g1 g2;have hl:=hz.2;rw[hw _ ah9,hw _ ah9];rfl
  . have hc0:mq T.length (List.replicate T.length Sp.zero)=0:=(by unfold mq jo;refine List.countP_eq_zero.2 (λj _=>?_);rw[h];simp[wrC,Sp.zero]);show ldW _ _=((mq _ (List.replicate T.length Sp.zero):Nat):Int);rw[hc0];have hl:=hz.2;rw[hw _ (by rw[hl];unfold nuFl;omega)];rfl
  . have H:(sv (List.replicate T.length Sp.zero) i).pc=9:=I;rw[h]at H;simp[Sp.zero]at H
  . have H:(sv (List.replicate T.length Sp.zero) i).pc=10:=I;rw[h]at H;simp[Sp.zero]at H
end
end
end Go.Proofs.YtglokdbiggbkjaaGreat
