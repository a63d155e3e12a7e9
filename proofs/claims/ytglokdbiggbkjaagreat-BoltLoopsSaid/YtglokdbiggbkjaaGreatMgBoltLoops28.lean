/- Joined texts. -/
import Derived.Test.YtglokdbiggbkjaaGreatMgBoltLoops0
import Derived.Test.YtglokdbiggbkjaaGreatMgBoltLoops7
import Derived.Test.YtglokdbiggbkjaaGreatMgBoltLoops11
import Derived.Test.YtglokdbiggbkjaaGreatMgBoltLoops27
set_option linter.unusedVariables false
set_option linter.unusedSimpArgs false
set_option linter.defProp false
set_option maxRecDepth 100000
set_option maxHeartbeats 16000000
open Go.Proofs.Tryz
namespace Go.Proofs.YtglokdbiggbkjaaGreat
open Go.IntKind(i64)
open Go.Value(int bool slice agg tuple pointer)
open Go.Ending(returned)
open Go.Obj(cells)
variable{W' P T:List Int}{n N j L:Nat}{ml:Nat->Nat}{z b C BB:Int}{w' w0:World}{r:Bool}{Q:Prop}
section
open Go
variable{p':Sp}{s':Ar}
structure Nu where
 st:Co
 d:Dr
 U:List Sp
def nuFl(N:Nat):Int:=2*(N:Int)+1
def onA(st:Co)(s:Ar):Co:={st with s:=s}
def iD(c:CoC)(N:Nat)(x:Nu)(i:Nat)(pc:Int):Co×Dr×Bool:=
 if pc=1 then(onA x.st (addA x.st.s (gaA (c.node i)) 1),x.d,true)
 else if pc=3 then(bC c (onA x.st (addA x.st.s (gaW (c.node i)) 1)) i,x.d,true)
 else if pc=5 then(aA (onA x.st (addA x.st.s (gaA (c.node i)) 1)) i,x.d,true)
 else if pc=8 then(onA x.st (ae x.st.s (nuFl N) 1),dU x.d N false,true)
 else if pc=9 then(onA x.st (aj x.st.s x.d).1,(aj x.st.s x.d).2.1,(aj x.st.s x.d).2.2)
 else if pc=11 then(onA x.st (addA x.st.s (gaW (c.node i)) 1),x.d,true)
 else if pc=12 then(aA (onA x.st (ae x.st.s (nuFl N) 0)) i,x.d,true)
 else(ak c x.st i,x.d,bv (sv x.st.T i) (sv (ak c x.st i).T i))
def rH(pc:Int):Int:=if pc=6\/pc=9 then 10 else if pc=11\/pc=13 then 0 else pc+1
def nuTo(p:Sp)(r:Bool):Sp:=if r then {p with pc:=rH p.pc} else p
def cG(c:CoC)(N:Nat)(x:Nu)(i:Nat):Nu:=
 if (sv x.U i).pc=0\/(sv x.U i).pc=10 then x
 else if (sv x.U i).pc=2 then⟨onA x.st (af x.st.s (nuFl N)),x.d,x.U.set i {(sv x.U i)with pc:=if ldW x.st.s.W (nuFl N)=0 then 10 else 3}⟩
 else⟨(iD c N x i (sv x.U i).pc).1,(iD c N x i (sv x.U i).pc).2.1,x.U.set i (nuTo (sv x.U i) (iD c N x i (sv x.U i).pc).2.2)⟩
def cH(c:CoC)(x:Nu)(i:Nat)(read:Bool):Nu:=
 if (sv x.U i).pc=0 then if read then {x with U:=x.U.set i ⟨1,1,0,0⟩} else {x with st:=bC c x.st i,U:=x.U.set i ⟨7,0,0,0⟩} else x
def aE(x:Nu)(i:Nat):Nu:=if (sv x.U i).pc=10 then {x with U:=x.U.set i {(sv x.U i)with pc:=12-(sv x.U i).a}} else x
def jC(p:Sp):Bool:=decide (p.a=1/\(p.pc=2\/p.pc=3\/p.pc=6\/p.pc=10\/p.pc=11))
def ft(p:Sp):Prop:=p.a=1/\(p.pc=6\/p.pc=10\/p.pc=11)
def wrP(p:Sp):Prop:=p.a=0/\(p.pc=9\/p.pc=10\/p.pc=12)
def hJ(p t:Sp):Prop:=
 (p.pc=0/\t.pc=0)\/(p.a=1/\(p.pc=1\/p.pc=2\/p.pc=3\/p.pc=10\/p.pc=11)/\t.pc=0)\/(p.a=1/\p.pc=4/\0<t.pc/\t.pc<10)\/(p.a=1/\p.pc=5/\t.pc=10)\/(p.a=1/\p.pc=6/\10<t.pc)\/
  (p.a=0/\p.pc=7/\0<t.pc/\t.pc<10)\/(p.a=0/\(p.pc=8\/p.pc=9\/p.pc=10\/p.pc=12)/\t.pc=10)\/(p.a=0/\p.pc=13/\10<t.pc)
def kQ(c:CoC)(n:Nat)(U:List Sp)(a:Nat):Nat:=jo n (λj=>decide (c.node j=a)&&jC (sv U j))
def DrI(c:CoC)(n N:Nat)(d:Dr)(W:List Int)(U:List Sp):Prop:=
 (d.busy=true/\d.once=false/\d.at_<N/\d.lim=N)/\(d.second=true->d.o<=ldW W (gaW d.at_))/\∀j,j<n->ft (sv U j)->d.at_<=c.node j
structure NuI(c:CoC)(n N:Nat)(ml:Nat->Nat)(x:Nu):Prop where
 m:CoM c n N ml x.st
 lU:x.U.length=n
 k:∀i,i<n->hJ (sv x.U i) (sv x.st.T i)
 g:∀a,a<N->ldW x.st.s.W (gaA a)=ldW x.st.s.W (gaW a)+(kQ c n x.U a:Int)
 fl:∀i,i<n->wrP (sv x.U i)->ldW x.st.s.W (nuFl N)≠0
 dr:∀i,i<n->(sv x.U i).a=0->(sv x.U i).pc=9->DrI c n N x.d x.st.s.W x.U
 hd:∀i,i<n->(sv x.U i).a=0->(sv x.U i).pc=10->∀j,j<n->¬ft (sv x.U j)
section
variable{c:CoC}{x x':Nu}
def NuI.safe(h:NuI c n N ml x)(y:cK c n N ml){i:Nat}(hi:i<n)(h1:(sv x.U i).pc=10)(H:(sv x.U i).a=0)(hj:j<n)(I:(sv x.U j).pc=10):j=i/\(sv x.U j).a=0:=by
 have ki:=h.k i hi;have V:=h.k j hj;by_cases O:(sv x.U j).a=1;.exact absurd ⟨O,.inr (.inl I)⟩ (h.hd i hi H h1 j hj)
 .have t1:(sv x.st.T i).pc=10:=by unfold hJ at ki;omega
  have t2:(sv x.st.T j).pc=10/\(sv x.U j).a=0:=by unfold hJ at V;omega
  exact abQ
def NuI.one(h:NuI c n N ml x)(y:cK c n N ml){i:Nat}(hi:i<n)(H:j<n)(h1:(sv x.st.T i).pc=10)(I:(sv x.st.T j).pc=10):i=j:=h.m.one y hi H ahB ahB
def Kd{p t:Sp}(h:hJ p t)(hw:wrP p):t.pc=10:=by unfold hJ at h;unfold wrP at hw;omega
def om{U:List Sp}{i:Nat}(h:i<U.length)(hi:i<n)(p:Sp)(a:Nat):kQ c n (U.set i p) a+(if c.node i=a/\jC (sv U i)=true then 1 else 0)=kQ c n U a+(if c.node i=a/\jC p=true then 1 else 0):=by unfold kQ;have:=jG (P:=λj=>decide (c.node j=a)&&jC (sv U j)) (Q:=λj=>decide (c.node j=a)&&jC (sv (U.set i p) j)) (i:=i) (λj H=>by rw[svS h,if_neg H]) n hi;simp only[Bool.and_eq_true,decide_eq_true_eq]at this;rw[svS h,if_pos rfl]at this;exact this
def NuI.upd(h:NuI c n N ml x){i:Nat}(hi:i<n){st':Co}{d':Dr}(hm:CoM c n N ml st')(hT:∀j,j≠i->sv st'.T j=sv x.st.T j)(hk:hJ p' (sv st'.T i))(hg:∀a,a<N->ldW st'.s.W (gaA a)=ldW st'.s.W (gaW a)+(kQ c n (x.U.set i p') a:Int))(Nb:∀j,j<n->j≠i->wrP (sv x.U j)->ldW st'.s.W (nuFl N)≠0)(Uh:wrP p'->ldW st'.s.W (nuFl N)≠0)(hH:∀a,a<N->ldW x.st.s.W (gaW a)<=ldW st'.s.W (gaW a))(MC:ft p'->ft (sv x.U i)\/∀j,j<n->j≠i->¬wrP (sv x.U j))(hd:∀j,j<n->j≠i->(sv x.U j).a=0->(sv x.U j).pc=9->d'=x.d)(od:p'.a=0->p'.pc=9->DrI c n N d' st'.s.W (x.U.set i p'))(oh:p'.a=0->p'.pc=10->∀j,j<n->j≠i->¬ft (sv x.U j)):NuI c n N ml ⟨st',d',x.U.set i p'⟩:=by
  refine akj ?_;intro hl;have hs:=svS hl p';refine⟨hm,by rw[List.length_set];exact h.lU,λj V=>?_,hg,λj V hw=>?_,λj V h0 h9=>?_,λj V h0 h10=>?_⟩
  . show hJ (sv (x.U.set i p') j) (sv st'.T j);rw[hs];split;. rename_i e;rw[e];exact hk
    . rename_i e;rw[hT j e];exact h.k j V
  . have Ma:wrP (sv (x.U.set i p') j):=hw;rw[hs]at Ma;split at Ma;. exact Uh Ma
    . rename_i e;exact Nb j V e Ma
  . have H:(sv (x.U.set i p') j).a=0:=h0;have O:(sv (x.U.set i p') j).pc=9:=h9;rw[hs]at H O;by_cases e:j=i;. rw[if_pos e]at H O;exact od H O
    . rw[if_neg e]at H O;obtain⟨q1,q2,q3⟩:=h.dr j V H O;show DrI c n N d' st'.s.W (x.U.set i p');rw[hd j V e H O];refine⟨q1,λhq=>Int.le_trans (q2 hq) (hH _ q1.2.2.1),λk hk I=>?_⟩;rw[hs]at I;split at I
      . rename_i e2;rcases MC I with h1|h1
        . rw[e2];exact q3 i hi h1
        . exact absurd ⟨H,.inl O⟩ (h1 j V e)
      . exact q3 k hk I
  . have H:(sv (x.U.set i p') j).a=0:=h0;have O:(sv (x.U.set i p') j).pc=10:=h10;rw[hs]at H O;intro k hk I;have Y:ft (sv (x.U.set i p') k):=I;rw[hs]at Y;by_cases e:j=i
    . rw[if_pos e]at H O;split at Y;. unfold ft at Y;omega
      . rename_i e2;exact oh H O k hk e2 Y
    . rw[if_neg e]at H O;split at Y
      . rcases MC Y with h1|h1
        . exact h.hd j V H O i hi h1
        . exact h1 j V e ⟨H,.inr (.inl O)⟩
      . exact h.hd j V H O k hk Y
structure NuL(c:CoC)(N:Nat)(W:List Int):Prop where
 tg:c.tg=2*(N:Int)+2
 len:2*(N:Int)+1<=W.length
def eY{a:Nat}(h:a<N):1<=gaA a/\gaA a<nuFl N:=by unfold gaA nuFl;omega
def bH{a:Nat}(h:a<N):1<=gaW a/\gaW a<nuFl N:=by unfold gaW nuFl;omega
def vV(h:NuI c n N ml x)(y:cK c n N ml)(l:NuL c N x.st.s.W)(hz:1<=z/\z<=nuFl N)(v:Int)(e:s'.W=stW x.st.s.W z v):(∀q,ldW s'.W q=if q=z then v else ldW x.st.s.W q)/\CoM c n N ml (onA x.st s'):=by exact abR
def Cp(h:NuI c n N ml x)(y:cK c n N ml)(e:s'.W=x.st.s.W):CoM c n N ml (onA x.st s'):=
 h.m.low y (by rw[e]) (λq _=>by rw[e]) (h.m.v.ars s')
def FO(h:NuI c n N ml x){i:Nat}(hi:i<n)(hb:jC p'=jC (sv x.U i))(a:Nat):kQ c n (x.U.set i p') a=kQ c n x.U a:=by have:=om (c:=c) (n:=n) (show i<x.U.length by rw[h.lU];exact hi) hi p' a;rw[hb]at this;omega
def eJ(h:NuI c n N ml x){i:Nat}(hi:i<n)(hb:jC p'=jC (sv x.U i))(hw:∀q,q<nuFl N->ldW W' q=ldW x.st.s.W q):∀a,a<N->ldW W' (gaA a)=ldW W' (gaW a)+(kQ c n (x.U.set i p') a:Int):=λa H=>by
 rw[hw _ (eY H).2,hw _ (bH H).2,FO h hi hb a];exact h.g a H
def Id(h:NuI c n N ml x)(hn:∀j,j<n->c.node j<N){i:Nat}(hi:i<n)(h0:jC (sv x.U i)=false)(h1:jC p'=true)(hw:∀q,ldW W' q=if q=gaA (c.node i)then ldW x.st.s.W (gaA (c.node i))+1 else ldW x.st.s.W q):∀a,a<N->ldW W' (gaA a)=ldW W' (gaW a)+(kQ c n (x.U.set i p') a:Int):=λa ha=>by
 have h2:=om (c:=c) (n:=n) (show i<x.U.length by rw[h.lU];exact hi) hi p' a
 exact abS
def Fa(h:NuI c n N ml x)(hn:∀j,j<n->c.node j<N){i:Nat}(hi:i<n)(h0:jC (sv x.U i)=true)(h1:jC p'=false)(hw:∀q,ldW W' q=if q=gaW (c.node i)then ldW x.st.s.W (gaW (c.node i))+1 else ldW x.st.s.W q):∀a,a<N->ldW W' (gaA a)=ldW W' (gaW a)+(kQ c n (x.U.set i p') a:Int):=λa ha=>by
 have h2:=om (c:=c) (n:=n) (show i<x.U.length by rw[h.lU];exact hi) hi p' a
 exact abT
end
end
section
open Go.RowKit
def kP(a b:Int):Bool:=decide (((a=0\/a=10)/\b≠a)\/(¬(a=0\/a=10)/\(b=0\/b=10)))
def bX{a:Int}(u0:(a==0)=false)(u1:(a==10)=false)(v1:(b==10)=true):true=kP a b:=by simp at u0 u1 v1;exact(decide_eq_true ahB).symm
def bY{a:Int}(u0:(a==0)=false)(u1:(a==10)=false)(v2:(b==0)=true):true=kP a b:=by simp at u0 u1 v2;exact(decide_eq_true ahB).symm
def bZ{a:Int}(u0:(a==0)=false)(u1:(a==10)=false)(v1:(b==10)=false)(v2:(b==0)=false):false=kP a b:=by simp at u0 u1 v1 v2;exact(decide_eq_false ahB).symm
def bU(h:b≠10):true=kP 10 b:=(decide_eq_true ahB).symm
def iq(a:Int):false=kP a a:=(decide_eq_false ahB).symm
def av(ty:TypeId)(B BC:Nat->Prop)(w:World)(a g:Nat)(X:SmX)(c:CoC)(P T:List Int)(U:List Sp)(n:Nat)(x':Nu)(e:Ending)(w':World):Prop:=
 e= returned (bool (kP (sv U n).pc (sv x'.U n).pc))/\aw ty B BC w' a g X c P T x'.st x'.d x'.U/\aa (SmS a g X) w w'
section
variable{ty:TypeId}{B BC:Nat->Prop}{w:World}{a g:Nat}{X:SmX}{c:CoC}{U:List Sp}{x':Nu}{e:Ending}{p p':Sp}
def av.stay(k:aw ty B BC w' a g X c P T x'.st x'.d x'.U)(t:aa (SmS a g X) w w')(h:x'.U=U):av ty B BC w a g X c P T U n x' (returned (bool false)) w':=
 ⟨by rw[h,<-iq],k,t⟩
def av.put(h:U[n]? =some p)(k:aw ty B BC w' a g X c P T x'.st x'.d x'.U)(t:aa (SmS a g X) w w')(V:x'.U=U.set n p')(I:r=kP p.pc p'.pc):av ty B BC w a g X c P T U n x' (returned (.bool r)) w':=by
 refine⟨?_,k,t⟩;obtain⟨O,Y⟩:=List.getElem?_eq_some_iff.1 h;have H:sv U n=p:=by unfold sv;rw[List.getD_eq_getElem?_getD,h];rfl
 rw[V,I,H,be,if_pos ⟨rfl,O⟩]
end
section
variable{ty:TypeId}
variable{B BC:Nat->Prop}{w:World}{a g:Nat}{X:SmX}{c:CoC}{st st':Co}{d d':Dr}{U:List Sp}{s':Ar}
def aw.put4(h:aw ty B BC w a g X c P T st d U)(Y:n<T.length)(p':Sp):aw ty B BC ((((w.setCell ⟨X.q,n*4,none⟩ (J p'.pc)).setCell ⟨X.q,n*4+1,none⟩ (J p'.a)).setCell ⟨X.q,n*4+2,none⟩ (J p'.b)).setCell ⟨X.q,n*4+3,none⟩ (J p'.c)) a g X c P T st d (U.set n p'):=by have H:=h.thr Y;obtain⟨p,e⟩:=LE (sv U n);rw[<-e]at H;have h1:=h.put0 H (u:= J p'.pc) (p':=⟨p'.pc,p.a,p.b,p.c⟩) rfl;have O:=h1.put (au H _) (j:=1) (u:= J p'.a) (p':=⟨p'.pc,p'.a,p.b,p.c⟩) ahD rfl;have V:=O.put (au (au H _) _) (j:=2) (u:= J p'.b) (p':=⟨p'.pc,p'.a,p'.b,p.c⟩) ahD rfl;have I:=V.put (au (au (au H _) _) _) (j:=3) (u:= J p'.c) (p':=p') ahD rfl;simp only[List.set_set]at I;exact I
def fB(w:World)(n:Nat)(u0 u1 u2 u3:Value):aa (SmS a g X) w ((((w.setCell ⟨X.q,n*4,none⟩ u0).setCell ⟨X.q,n*4+1,none⟩ u1).setCell ⟨X.q,n*4+2,none⟩ u2).setCell ⟨X.q,n*4+3,none⟩ u3):=
 (((eg _ _).trans (eg _ _)).trans (eg _ _)).trans (eg _ _)
end
section
variable{B BC:Nat->Prop}{w:World}{a g:Nat}{X:SmX}{c:CoC}{st st':Co}{d d':Dr}{U:List Sp}{s':Ar}
def FE(h:aw 330 B BC w a g X c P T st d U)(n:Nat)(hn:n<T.length)(r:Bool):E 361 #[↑X.l,J n,.bool r] w (av 330 B BC w a g X c P T U n (cH c ⟨st,d,U⟩ n r)):=by
 have mT:okI U (n:Int):=⟨by omega,by rw[h.lU];omega⟩;have HH:=qh (BQ h n true (decide_eq_true mT).symm);have hp:=h.thr hn;have H:=qh h;have V:=h.nT;have HA:=qh (sC h.co n (by rw[V.1];exact hn));obtain⟨x',O⟩:=LE (cH c ⟨st,d,U⟩ n r);rw[<-O];unfold cH at O;obtain⟨p,Y⟩:=LE (sv U n);simp only at O;rw[<-Y]at hp O;have c6:=h.cs.2.2.2.2.2.2;have c5:=h.cs.2.2.2.2.2.1;refine ai0 ?_;intro a0 a1 a2 a3;have f1:∀j,w.frozen? ⟨X.q,j,none⟩=false:=λj=>h.sp.free j;have t2:¬(n:Int)<0:=by omega
 have HX:=qh O;have HP:=qh hp;clear h hp Y mT V O;by_cases I:p.pc=0
 .have y1:(p.pc !=0)=false:=by simpa using I
  have HP0:=qh I;clear I;cases r;.go_enter func361,ntmps361;exact abU
  .go_enter func361,ntmps361;exact abV
 .have y1:(p.pc !=0)=true:=by simpa using I
  have HP0:=qh I;clear I;go_enter func361,ntmps361;exact abW
def Cd(h:aw 330 B BC w a g X c P T st d U)(n:Nat)(hn:n<T.length)(I:(sv U n).pc=10->(sv U n).a=0\/(sv U n).a=1):E 362 #[↑X.l,J n] w (av 330 B BC w a g X c P T U n (aE ⟨st,d,U⟩ n)):=by
 have Kt:=aP;have Y:=px h n;have V:=h.thr hn;have hg:getS U (n:Int)=sv U n:=by exact abX
 rw[hg]at Y;refine aj6 ?_;intro H x' p mP r';rw[<-mP]at V r' Y I;have HS:=qh Y;have HX:=qh r';have HP:=qh V;refine aj0 ?_;intro t2 MX;clear h V mP r' hg Y;obtain⟨pc,u,b,z⟩:=p;simp only at I HX;unfold aF at HS;by_cases KF:pc=10
 .subst KF;have Lv:=I rfl;obtain⟨v,O⟩:=LE (12-u);have x1:IntKind.i64.wrap (12-u)=v:=by rw[O];exact IntWalk.i64_in _ ahB
  rw[<-O]at HX;have HV:Kq (v≠10):=qh ahB;clear I Lv O;have HC:=qh (λW (U':List Sp) (Kx:Int) (k:aw 330 B BC W a g X c P T st d U') (V:U'[n]? =some (⟨Kx,u,b,z⟩:Sp))=>And.intro k.cs.2.2.2.2.2.2 (k.sp.cell V 1 _ rfl));go_enter func362,ntmps362;go_wp2_with fail;refine ajU ?_;intro w1 b1 K1 T1 K0;have K3:=qh ((K0.o.put0 HP.o (p':=(⟨v,u,b,z⟩:Sp)) (u:= J v) rfl).below (Below.refl _ _).drew);have T3:=qh (show aa (SmS a g X) w ((w1.setCell ⟨X.q,n*4,none⟩ (J v)).drew)from((aa.of_below b1.o).trans (eg _ _)).drew);have e0:=ST (K1.o.sp.cell HP.o 0 _ rfl);have z0:=K1.o.sp.free (n*4);go_wp2_with fail
  go_region_held3 (λW=>Z W X.l 6 (slice (some ⟨X.q,0,none⟩) T.length T.length)/\Z W X.q (n*4+1) (J u))
   (first|with_reducible exact HC.o _ _ _ K1.o HP.o|with_reducible exact HC.o _ _ _ K3.o (au HP.o _))
   (first|fail)
  exact abY
 .have y1:(pc !=10)=true:=by simpa using KF
  have HP0:=qh KF;clear KF I;go_enter func362,ntmps362;go_wp2_with fail;refine Op HS.o λw1 HB=>?_;go_wp2;go_ret;rw[HX.o,if_neg HP0.o];first|exact av.stay (H.o.below HB.o) (aa.of_below HB.o) rfl|exact av.put HP.o (H.o.below HB.o) (aa.of_below HB.o) rfl ahL
end
end
section
open Go
section
variable{c:CoC}{x:Nu}{B:Int}
def wF{p:Sp}(h:¬(p.a=1/\(p.pc=2\/p.pc=3\/p.pc=6\/p.pc=10\/p.pc=11))):jC p=false:=decide_eq_false h
def GI{p:Sp}(h:p.a=1/\(p.pc=2\/p.pc=3\/p.pc=6\/p.pc=10\/p.pc=11)):jC p=true:=decide_eq_true h
def NuI.ask(h:NuI c n N ml x)(y:cK c n N ml){i:Nat}(hi:i<n)(r:Bool):NuI c n N ml (cH c x i r):=by
 unfold cH;split
 .rename_i Y;have V:=h.k i hi;have O:(sv x.st.T i).pc=0:=by unfold hJ at V;omega
  have hb:jC (sv x.U i)=false:=wF ahB;split;.exact h.upd hi h.m (λ_ _=>rfl) (.inr (.inl ⟨rfl,.inl rfl,O⟩)) (eJ h hi ah8 (λ_ _=>rfl)) (λj H _ hw=>h.fl j H hw) (λhw=>by unfold wrP at hw;simp at hw) (λ_ _=>Int.le_refl _) (λI=>by unfold ft at I;simp at I) (λ_ _ _ _ _=>rfl) (λe=>by simp at e) (λe=>by simp at e)
  .have hm:=h.m.ask y hi;have hs:=gI c x.st i;have hT:=(Kg (c:=c) (j:=i) h.m.v hi).2 O;exact h.upd hi hm (λj H=>(Kg (c:=c) h.m.v hi).1 H) (.inr (.inr (.inr (.inr (.inr (.inl ⟨rfl,rfl,by omega,by omega⟩)))))) (by rw[hs];exact eJ h hi ah8 (λ_ _=>rfl)) (λj H _ hw=>by rw[hs];exact h.fl j H hw) (λhw=>by unfold wrP at hw;simp at hw) (λa _=>by rw[hs];exact Int.le_refl _) (λI=>by unfold ft at I;simp at I) (λ_ _ _ _ _=>rfl) (λ_ e=>by simp at e) (λ_ e=>by simp at e)
 .exact h
def NuI.leave(h:NuI c n N ml x){i:Nat}(hi:i<n):NuI c n N ml (aE x i):=by
 unfold aE;split
 .rename_i h10;have hk:=h.k i hi;obtain⟨p,hp⟩:=LE (sv x.U i);have V:=h.fl i hi;rw[<-hp]at hk h10 V ⊢;have Y:(p.a=1/\(sv x.st.T i).pc=0)\/(p.a=0/\(sv x.st.T i).pc=10):=by unfold hJ at hk;omega
  obtain⟨pc,u,b,z⟩:=p;simp only at h10 Y;subst h10;rcases Y with⟨rfl,O⟩|⟨rfl,O⟩
  .refine h.upd hi h.m (λ_ _=>rfl) (.inr (.inl ⟨rfl,.inr (.inr (.inr (.inr rfl))),O⟩)) (eJ h hi ahH (λ_ _=>rfl)) (λj H _ hw=>h.fl j H hw) (λhw=>by unfold wrP at hw;simp at hw) (λ_ _=>Int.le_refl _) (λI=> .inl (by rw[<-hp];exact⟨rfl,.inr (.inl rfl)⟩)) (λ_ _ _ _ _=>rfl) (λe=>by simp at e) (λe=>by simp at e)
  .refine h.upd hi h.m (λ_ _=>rfl) (.inr (.inr (.inr (.inr (.inr (.inr (.inl ⟨rfl,.inr (.inr (.inr rfl)),O⟩))))))) (eJ h hi ahH (λ_ _=>rfl)) (λj H _ hw=>h.fl j H hw) (λ_=>V ⟨rfl,.inr (.inl rfl)⟩) (λ_ _=>Int.le_refl _) (λI=>by unfold ft at I;simp at I) (λ_ _ _ _ _=>rfl) (λ_ e=>by simp at e) (λ_ e=>by simp at e)
 .exact h
def gZ(s:Ar)(d:Dr):(aj s d).1.W=s.W:=by
 unfold aj;split
 .split;.exact aQ _ _
  .exact aQ _ _
 .rfl
def NuI.step(h:NuI c n N ml x)(y:cK c n N ml)(l:NuL c N x.st.s.W)(hB:CoB c B x.st)(KC:40<=B)(KD:B<=1000000000000){i:Nat}(hi:i<n):NuI c n N ml (cG c N x i):=by
  have hn:=(y.nd i hi).1;have Kw:∀j,j<n->c.node j<N:=λj hj=>(y.nd j hj).1;have hk:=h.k i hi;have E':=h.fl i hi;have Lc:=h.dr i hi;obtain⟨p,hp⟩:=LE (sv x.U i);have oth:(sv x.st.T i).pc=10->∀j,j<n->j≠i->¬wrP (sv x.U j):=λht j hj e hw=>e (h.one y hj hi (Kd (h.k j hj) hw) ht);refine aj1 ?_;intro Lk bA bW;refine ajh ?_;intro wA wW;have lA:=vV h y l (z:=gaA (c.node i)) ⟨(eY hn).1,by have:=(eY hn).2;omega⟩ (ldW x.st.s.W (gaA (c.node i))+1) (s':=addA x.st.s (gaA (c.node i)) 1) (by rw[d9,wA]);have lW:=vV h y l (z:=gaW (c.node i)) ⟨(bH hn).1,by have:=(bH hn).2;omega⟩ (ldW x.st.s.W (gaW (c.node i))+1) (s':=addA x.st.s (gaW (c.node i)) 1) (by rw[d9,wW]);have lF:=λv=>vV h y l (z:=nuFl N) ⟨by unfold nuFl;omega,Int.le_refl _⟩ v (s':=ae x.st.s (nuFl N) v) (ay _ _ _);refine ai2 ?_;intro fA fW HA;have HW:∀a,a<N->ldW x.st.s.W (gaW a)<=ldW (addA x.st.s (gaW (c.node i)) 1).W (gaW a):=λa _=>by exact abZ
  refine ajg ?_;intro HF SF mS lS Km tS aS;unfold cG;rw[<-hp];rw[<-hp]at hk E' Lc;split;. exact h
  rename_i ab;split
  . rename_i h2;obtain⟨pc,u,b,z⟩:=p;simp only at h2;subst h2;have KL:u=1/\(sv x.st.T i).pc=0:=(by unfold hJ at hk;simp at hk;exact hk);obtain⟨rfl,ht⟩:=KL;have e:(af x.st.s (nuFl N)).W=x.st.s.W:=aQ _ _;refine h.upd hi (Cp h y e) (λ_ _=>rfl) ?_ (eJ h hi ?_ (λq _=>by show ldW (af _ _).W q=_;rw[e])) (λj hj _ hw=>by show ldW (af _ _).W _≠0;rw[e];exact h.fl j hj hw) (λhw=>by unfold wrP at hw;simp at hw) (λa _=>by show _<=ldW (af _ _).W _;rw[e];exact Int.le_refl _) (λI=> .inr (λj hj _ hw=>?_)) (λ_ _ _ _ _=>rfl) (λe=>by simp at e) (λe=>by simp at e)
    . refine .inr (.inl ⟨rfl,?_,ht⟩);simp only;split;. exact .inr (.inr (.inr (.inl rfl)))
      . exact .inr (.inr (.inl rfl))
    . rw[<-hp];simp only;split<;>rfl
    . have hf:=h.fl j hj hw;unfold ft at I;simp only at I;rw[if_neg hf]at I;omega
  rename_i h2;have ad:=oth;unfold hJ at hk;obtain⟨pc,u,b,z⟩:=p;simp only at hk ab h2 E' Lc
  have KJ:(u=1/\pc=1/\(sv x.st.T i).pc=0)\/(u=1/\pc=3/\(sv x.st.T i).pc=0)\/(u=1/\pc=11/\(sv x.st.T i).pc=0)\/(u=1/\pc=4/\0<(sv x.st.T i).pc/\(sv x.st.T i).pc<10)\/(u=1/\pc=5/\(sv x.st.T i).pc=10)\/(u=1/\pc=6/\10<(sv x.st.T i).pc)\/
      (u=0/\pc=7/\0<(sv x.st.T i).pc/\(sv x.st.T i).pc<10)\/(u=0/\pc=8/\(sv x.st.T i).pc=10)\/(u=0/\pc=9/\(sv x.st.T i).pc=10)\/(u=0/\pc=12/\(sv x.st.T i).pc=10)\/(u=0/\pc=13/\10<(sv x.st.T i).pc):=by
    rcases hk with⟨V,H⟩|⟨V,H,Y⟩|⟨V,H,Y⟩|⟨V,H,Y⟩|⟨V,H,Y⟩|⟨V,H,Y⟩|⟨V,H,Y⟩|⟨V,H,Y⟩
    . exact absurd (.inl V) ab
    . rcases H with H|H|H|H|H
      . exact .inl ⟨V,H,Y⟩
      . exact absurd H h2
      . exact .inr (.inl ⟨V,H,Y⟩)
      . exact absurd (.inr H) ab
      . exact .inr (.inr (.inl ⟨V,H,Y⟩))
    . exact .inr (.inr (.inr (.inl ⟨V,H,Y⟩)))
    . exact .inr (.inr (.inr (.inr (.inl ⟨V,H,Y⟩))))
    . exact .inr (.inr (.inr (.inr (.inr (.inl ⟨V,H,Y⟩)))))
    . exact .inr (.inr (.inr (.inr (.inr (.inr (.inl ⟨V,H,Y⟩))))))
    . rcases H with H|H|H|H
      . exact .inr (.inr (.inr (.inr (.inr (.inr (.inr (.inl ⟨V,H,Y⟩)))))))
      . exact .inr (.inr (.inr (.inr (.inr (.inr (.inr (.inr (.inl ⟨V,H,Y⟩))))))))
      . exact absurd (.inr H) ab
      . exact .inr (.inr (.inr (.inr (.inr (.inr (.inr (.inr (.inr (.inl ⟨V,H,Y⟩)))))))))
    . exact .inr (.inr (.inr (.inr (.inr (.inr (.inr (.inr (.inr (.inr (⟨V,H,Y⟩))))))))))
  clear hk;rcases KJ with⟨rfl,rfl,ht⟩|⟨rfl,rfl,ht⟩|⟨rfl,rfl,ht⟩|⟨rfl,rfl,ht⟩|⟨rfl,rfl,ht⟩|⟨rfl,rfl,ht⟩|⟨rfl,rfl,ht⟩|⟨rfl,rfl,ht⟩|⟨rfl,rfl,ht⟩|⟨rfl,rfl,ht⟩|⟨rfl,rfl,ht⟩
  . show NuI c n N ml ⟨onA x.st (addA x.st.s (gaA (c.node i)) 1),x.d,x.U.set i ⟨2,1,b,z⟩⟩;exact h.upd (p':=⟨2,1,b,z⟩) hi lA.2 (λ_ _=>rfl) (.inr (.inl ⟨rfl,.inr (.inl rfl),ht⟩)) (Id h Kw hi ahH rfl lA.1) (λj hj _ hw=>by rw[show ldW (onA x.st (addA x.st.s (gaA (c.node i)) 1)).s.W (nuFl N)=_ from fA];exact h.fl j hj hw) (λhw=>by unfold wrP at hw;simp at hw) HA (λI=>by unfold ft at I;simp at I) (λ_ _ _ _ _=>rfl) (λe=>by simp at e) (λe=>by simp at e)
  . show NuI c n N ml ⟨bC c (onA x.st (addA x.st.s (gaW (c.node i)) 1)) i,x.d,x.U.set i ⟨4,1,b,z⟩⟩;have hm:=lW.2.ask y hi;have hs:=gI c (onA x.st (addA x.st.s (gaW (c.node i)) 1)) i;have hT:=Kg (c:=c) (st:=onA x.st (addA x.st.s (gaW (c.node i)) 1)) (j:=i) lW.2.v hi;have QY:(sv (bC c (onA x.st (addA x.st.s (gaW (c.node i)) 1)) i).T i).pc=1:=hT.2 ht;refine h.upd (p':=⟨4,1,b,z⟩) hi hm (λj hj=>(Kg (c:=c) (st:=onA x.st (addA x.st.s (gaW (c.node i)) 1)) lW.2.v hi).1 hj) (.inr (.inr (.inl ⟨rfl,rfl,by omega,by omega⟩))) ?_ (λj hj _ hw=>?_) (λhw=>by unfold wrP at hw;simp at hw) (λa ha=>?_) (λI=>by unfold ft at I;simp at I) (λ_ _ _ _ _=>rfl) (λe=>by simp at e) (λe=>by simp at e);. show ∀a,a<N->ldW (bC c _ i).s.W _=_;rw[hs];exact Fa h Kw hi ahH rfl lW.1
    . show ldW (bC c _ i).s.W _≠0;rw[hs];rw[show ldW (onA x.st (addA x.st.s (gaW (c.node i)) 1)).s.W (nuFl N)=_ from fW];exact h.fl j hj hw
    . show _<=ldW (bC c _ i).s.W _;rw[hs];exact HW a ha
  . show NuI c n N ml ⟨onA x.st (addA x.st.s (gaW (c.node i)) 1),x.d,x.U.set i ⟨0,1,b,z⟩⟩;exact h.upd (p':=⟨0,1,b,z⟩) hi lW.2 (λ_ _=>rfl) (.inl ⟨rfl,ht⟩) (Fa h Kw hi ahH rfl lW.1) (λj hj _ hw=>by rw[show ldW (onA x.st (addA x.st.s (gaW (c.node i)) 1)).s.W (nuFl N)=_ from fW];exact h.fl j hj hw) (λhw=>by unfold wrP at hw;simp at hw) HW (λI=>by unfold ft at I;simp at I) (λ_ _ _ _ _=>rfl) (λe=>by simp at e) (λe=>by simp at e)
  . have a1:=aS.1 ht;show NuI c n N ml ⟨ak c x.st i,x.d,x.U.set i (nuTo ⟨4,1,b,z⟩ (bv (sv x.st.T i) (sv (ak c x.st i).T i)))⟩;rw[a1.2];by_cases Ln:(sv (ak c x.st i).T i).pc=10;. rw[decide_eq_true Ln];exact h.upd (p':=⟨5,1,b,z⟩) hi mS tS (.inr (.inr (.inr (.inl ⟨rfl,rfl,Ln⟩)))) (eJ h hi ahH (λq hq=>Km q ahB)) (λj hj _ hw=>by rw[Km _ (Int.le_refl _)];exact h.fl j hj hw) (λhw=>by unfold wrP at hw;simp at hw) (λa ha=>by rw[Km _ ahJ];exact Int.le_refl _) (λI=>by unfold ft at I;simp at I) (λ_ _ _ _ _=>rfl) (λe=>by simp at e) (λe=>by simp at e)
    . rw[decide_eq_false Ln];exact h.upd (p':=⟨4,1,b,z⟩) hi mS tS (.inr (.inr (.inl ⟨rfl,rfl,a1.1.1,by omega⟩))) (eJ h hi ahO (λq hq=>Km q ahB)) (λj hj _ hw=>by rw[Km _ (Int.le_refl _)];exact h.fl j hj hw) (λhw=>by unfold wrP at hw;simp at hw) (λa ha=>by rw[Km _ ahJ];exact Int.le_refl _) (λI=>by unfold ft at I;simp at I) (λ_ _ _ _ _=>rfl) (λe=>by simp at e) (λe=>by simp at e)
  . show NuI c n N ml ⟨aA (onA x.st (addA x.st.s (gaA (c.node i)) 1)) i,x.d,x.U.set i ⟨6,1,b,z⟩⟩;have hm:=lA.2.leave y hi;have hs:=fO (onA x.st (addA x.st.s (gaA (c.node i)) 1)) i;have QY:(sv (aA (onA x.st (addA x.st.s (gaA (c.node i)) 1)) i).T i).pc=11:=(fd (st:=onA x.st (addA x.st.s (gaA (c.node i)) 1)) (j:=i) lA.2.v hi).2 ht;refine h.upd (p':=⟨6,1,b,z⟩) hi hm (λj hj=>(fd (st:=onA x.st (addA x.st.s (gaA (c.node i)) 1)) lA.2.v hi).1 hj) (.inr (.inr (.inr (.inr (.inl ⟨rfl,rfl,by omega⟩))))) ?_ (λj hj _ hw=>?_) (λhw=>by unfold wrP at hw;simp at hw) (λa ha=>?_) (λ_=> .inr (oth ht)) (λ_ _ _ _ _=>rfl) (λe=>by simp at e) (λe=>by simp at e);. show ∀a,a<N->ldW (aA _ i).s.W _=_;rw[hs];exact Id h Kw hi ahH rfl lA.1
    . show ldW (aA _ i).s.W _≠0;rw[hs];rw[show ldW (onA x.st (addA x.st.s (gaA (c.node i)) 1)).s.W (nuFl N)=_ from fA];exact h.fl j hj hw
    . show _<=ldW (aA _ i).s.W _;rw[hs];exact HA a ha
  . have a1:=aS.2 ht;show NuI c n N ml ⟨ak c x.st i,x.d,x.U.set i (nuTo ⟨6,1,b,z⟩ (bv (sv x.st.T i) (sv (ak c x.st i).T i)))⟩;rw[a1.2];have Kh:ft (sv x.U i):=(by rw[<-hp];exact⟨rfl,.inl rfl⟩);by_cases Ln:(sv (ak c x.st i).T i).pc=0;. rw[decide_eq_true Ln];exact h.upd (p':=⟨10,1,b,z⟩) hi mS tS (.inr (.inl ⟨rfl,.inr (.inr (.inr (.inl rfl))),Ln⟩)) (eJ h hi ahH (λq hq=>Km q ahB)) (λj hj _ hw=>by rw[Km _ (Int.le_refl _)];exact h.fl j hj hw) (λhw=>by unfold wrP at hw;simp at hw) (λa ha=>by rw[Km _ ahJ];exact Int.le_refl _) (λ_=> .inl Kh) (λ_ _ _ _ _=>rfl) (λe=>by simp at e) (λe=>by simp at e)
    . rw[decide_eq_false Ln];exact h.upd (p':=⟨6,1,b,z⟩) hi mS tS (.inr (.inr (.inr (.inr (.inl ⟨rfl,rfl,by omega⟩))))) (eJ h hi ahO (λq hq=>Km q ahB)) (λj hj _ hw=>by rw[Km _ (Int.le_refl _)];exact h.fl j hj hw) (λhw=>by unfold wrP at hw;simp at hw) (λa ha=>by rw[Km _ ahJ];exact Int.le_refl _) (λ_=> .inl Kh) (λ_ _ _ _ _=>rfl) (λe=>by simp at e) (λe=>by simp at e)
  . have a1:=aS.1 ht;show NuI c n N ml ⟨ak c x.st i,x.d,x.U.set i (nuTo ⟨7,0,b,z⟩ (bv (sv x.st.T i) (sv (ak c x.st i).T i)))⟩;rw[a1.2];by_cases Ln:(sv (ak c x.st i).T i).pc=10;. rw[decide_eq_true Ln];exact h.upd (p':=⟨8,0,b,z⟩) hi mS tS (.inr (.inr (.inr (.inr (.inr (.inr (.inl ⟨rfl,.inl rfl,Ln⟩))))))) (eJ h hi ahH (λq hq=>Km q ahB)) (λj hj _ hw=>by rw[Km _ (Int.le_refl _)];exact h.fl j hj hw) (λhw=>by unfold wrP at hw;simp at hw) (λa ha=>by rw[Km _ ahJ];exact Int.le_refl _) (λI=>by unfold ft at I;simp at I) (λ_ _ _ _ _=>rfl) (λ_ e=>by simp at e) (λ_ e=>by simp at e)
    . rw[decide_eq_false Ln];exact h.upd (p':=⟨7,0,b,z⟩) hi mS tS (.inr (.inr (.inr (.inr (.inr (.inl ⟨rfl,rfl,a1.1.1,by omega⟩)))))) (eJ h hi ahO (λq hq=>Km q ahB)) (λj hj _ hw=>by rw[Km _ (Int.le_refl _)];exact h.fl j hj hw) (λhw=>by unfold wrP at hw;simp at hw) (λa ha=>by rw[Km _ ahJ];exact Int.le_refl _) (λI=>by unfold ft at I;simp at I) (λ_ _ _ _ _=>rfl) (λ_ e=>by simp at e) (λ_ e=>by simp at e)
  . show NuI c n N ml ⟨onA x.st (ae x.st.s (nuFl N) 1),dU x.d N false,x.U.set i ⟨9,0,b,z⟩⟩;have hN:1<=N:=(by omega);refine h.upd (p':=⟨9,0,b,z⟩) hi (lF 1).2 (λ_ _=>rfl) (.inr (.inr (.inr (.inr (.inr (.inr (.inl ⟨rfl,.inr (.inl rfl),ht⟩))))))) (eJ h hi ahH (SF 1)) (λj hj e hw=>absurd hw (oth ht j hj e)) (λ_=>by show ldW (ae _ _ _).W _≠0;rw[(lF 1).1,if_pos rfl];decide) (HF 1) (λI=>by unfold ft at I;simp at I) (λj hj e h0 h9=>(Lk ht j hj e h0 h9).elim) (λ_ _=>?_) (λ_ e=>by simp at e);exact⟨⟨rfl,rfl,hN,rfl⟩,λe=>by simp[dU]at e,λj hj _=>Nat.zero_le _⟩
  . obtain⟨⟨V,H,Y,q4⟩,q5,q6⟩:=Lc rfl rfl;have Nb:=E' ⟨rfl,.inl rfl⟩;have hW:=gZ x.st.s x.d;have hs:=svS (show i<x.U.length by rw[h.lU];exact hi)
    have nr:∀Kx j,ft (sv (x.U.set i ⟨Kx,0,b,z⟩) j)->j≠i/\ft (sv x.U j):=λKx j I=>by
      rw[hs]at I;split at I;. unfold ft at I;simp at I
      . rename_i e;exact⟨e,I⟩
    have go:∀(Kx:Int) (d':Dr),(Kx=9\/Kx=10)->(Kx=9->DrI c n N d' x.st.s.W (x.U.set i ⟨Kx,0,b,z⟩))->(Kx=10->∀j,j<n->j≠i->¬ft (sv x.U j))->NuI c n N ml ⟨onA x.st (aj x.st.s x.d).1,d',x.U.set i ⟨Kx,0,b,z⟩⟩:=λKx d' Ki o9 Rz=>by
      refine h.upd (p':=⟨Kx,0,b,z⟩) hi (Cp h y hW) (λ_ _=>rfl) (.inr (.inr (.inr (.inr (.inr (.inr (.inl ⟨rfl,?_,ht⟩))))))) (eJ h hi ?_ (λq _=>by show ldW (aj _ _).1.W q=_;rw[hW])) (λj hj _ hw=>by show ldW (aj _ _).1.W _≠0;rw[hW];exact h.fl j hj hw) (λ_=>by show ldW (aj _ _).1.W _≠0;rw[hW];exact Nb) (λa _=>by show _<=ldW (aj _ _).1.W _;rw[hW];exact Int.le_refl _) (λI=>by unfold ft at I;simp at I) (λj hj e h0 h9=>(Lk ht j hj e h0 h9).elim) (λ_ h9=>?_) (λ_ h10=>Rz h10)
      . rcases Ki with rfl|rfl
        . exact .inr (.inl rfl)
        . exact .inr (.inr (.inl rfl))
      . rw[<-hp,wF ahC,wF ahC]
      . show DrI c n N d' (aj _ _).1.W _;rw[hW];exact o9 h9
    show NuI c n N ml ⟨onA x.st (aj x.st.s x.d).1,(aj x.st.s x.d).2.1,x.U.set i (nuTo ⟨9,0,b,z⟩ (aj x.st.s x.d).2.2)⟩;by_cases NX:x.d.second=true
    . have e1:aj x.st.s x.d=(af x.st.s (gaA x.d.at_),dS x.st.s x.d):=(by unfold aj;rw[V,NX];rfl);have e2:(aj x.st.s x.d).2=dS x.st.s x.d:=(by rw[e1]);rw[e2];unfold dS;by_cases O:ldW x.st.s.W (gaA x.d.at_)=x.d.o
      . rw[if_neg (by simpa using O)];have hg:=h.g x.d.at_ Y;have WQ:=q5 NX;have Wl:kQ c n x.U x.d.at_=0:=by omega
        have ND:∀j,j<n->ft (sv x.U j)->c.node j≠x.d.at_:=λj hj I e=>by
          have:0<kQ c n x.U x.d.at_:=jH (P:=λj=>decide (c.node j=x.d.at_)&&jC (sv x.U j)) hj (by
            simp only[Bool.and_eq_true,decide_eq_true_eq];refine⟨e,GI ⟨I.1,?_⟩⟩;rcases I.2 with h1|h1|h1
            . exact .inr (.inr (.inl h1))
            . exact .inr (.inr (.inr (.inl h1)))
            . exact .inr (.inr (.inr (.inr h1))))
          omega
        by_cases Pj:x.d.at_+1=x.d.lim;. rw[if_pos Pj];refine go 10 _ (.inr rfl) (λe=>by simp at e) (λ_ j hj e I=>?_);have h1:=q6 j hj I;have h2:=ND j hj I;have h3:=Kw j hj;omega
        . rw[if_neg Pj];refine go 9 _ (.inl rfl) (λ_=>⟨⟨V,H,by show x.d.at_+1<N;omega,q4⟩,λe=>by simp at e,λj hj I=>?_⟩) (λe=>by simp at e);have KT:=(nr 9 j I).2;have h1:=q6 j hj KT;have h2:=ND j hj KT;show x.d.at_+1<=c.node j;omega
      . rw[if_pos O,if_neg (by rw[H];decide)];exact go 9 _ (.inl rfl) (λ_=>⟨⟨V,H,Y,q4⟩,λe=>by simp at e,λj hj I=>q6 j hj (nr 9 j I).2⟩) (λe=>by simp at e)
    . have e1:aj x.st.s x.d=(af x.st.s (gaW x.d.at_),{x.d with o:=ldW x.st.s.W (gaW x.d.at_),second:=true},false):=(by unfold aj;rw[if_pos V,if_neg NX]);have e2:(aj x.st.s x.d).2=({x.d with o:=ldW x.st.s.W (gaW x.d.at_),second:=true},false):=(by rw[e1]);rw[e2];exact go 9 _ (.inl rfl) (λ_=>⟨⟨V,H,Y,q4⟩,λ_=>Int.le_refl _,λj hj I=>q6 j hj (nr 9 j I).2⟩) (λe=>by simp at e)
  . show NuI c n N ml ⟨aA (onA x.st (ae x.st.s (nuFl N) 0)) i,x.d,x.U.set i ⟨13,0,b,z⟩⟩;refine aj3 ?_;intro hm hs QY;refine h.upd (p':=⟨13,0,b,z⟩) hi hm (λj hj=>(fd (st:=onA x.st (ae x.st.s (nuFl N) 0)) (lF 0).2.v hi).1 hj) (.inr (.inr (.inr (.inr (.inr (.inr (.inr ⟨rfl,rfl,by omega⟩))))))) ?_ (λj hj e hw=>absurd hw (oth ht j hj e)) (λhw=>by unfold wrP at hw;simp at hw) (λa ha=>?_) (λI=>by unfold ft at I;simp at I) (λ_ _ _ _ _=>rfl) (λ_ e=>by simp at e) (λ_ e=>by simp at e);. show ∀a,a<N->ldW (aA _ i).s.W _=_;rw[hs];exact eJ h hi ahH (SF 0)
    . show _<=ldW (aA _ i).s.W _;rw[hs];exact HF 0 a ha
  . have a1:=aS.2 ht;show NuI c n N ml ⟨ak c x.st i,x.d,x.U.set i (nuTo ⟨13,0,b,z⟩ (bv (sv x.st.T i) (sv (ak c x.st i).T i)))⟩;rw[a1.2];by_cases Ln:(sv (ak c x.st i).T i).pc=0;. rw[decide_eq_true Ln];exact h.upd (p':=⟨0,0,b,z⟩) hi mS tS (.inl ⟨rfl,Ln⟩) (eJ h hi ahH (λq hq=>Km q ahB)) (λj hj _ hw=>by rw[Km _ (Int.le_refl _)];exact h.fl j hj hw) (λhw=>by unfold wrP at hw;simp at hw) (λa ha=>by rw[Km _ ahJ];exact Int.le_refl _) (λI=>by unfold ft at I;simp at I) (λ_ _ _ _ _=>rfl) (λ_ e=>by simp at e) (λ_ e=>by simp at e)
    . rw[decide_eq_false Ln];exact h.upd (p':=⟨13,0,b,z⟩) hi mS tS (.inr (.inr (.inr (.inr (.inr (.inr (.inr ⟨rfl,rfl,by omega⟩))))))) (eJ h hi ahO (λq hq=>Km q ahB)) (λj hj _ hw=>by rw[Km _ (Int.le_refl _)];exact h.fl j hj hw) (λhw=>by unfold wrP at hw;simp at hw) (λa ha=>by rw[Km _ ahJ];exact Int.le_refl _) (λI=>by unfold ft at I;simp at I) (λ_ _ _ _ _=>rfl) (λ_ e=>by simp at e) (λ_ e=>by simp at e)
end
end
section
open Go Go.RowKit
def svR(k i:Nat):sv (List.replicate k Sp.zero) i=Sp.zero:=by exact aa9
section
variable{c:CoC}{x:Nu}{st:Co}{B:Int}{o:Nat}
def bO.on(h:bO c n L B o st){s':Ar}(H:B<=C)(hw:WdB C s')(I:eO st.s s'):bO c n L C (o+1) (onA st s'):=
 ⟨⟨hw,(h.bd.mono H).g,(h.bd.mono H).l,(h.bd.mono H).t⟩,h.v.ars s',by show s'.W.length=L;rw[I.2,h.len],by show s'.ops<=o+1;have:=I.1;have:=h.ops;omega⟩
def bO.up(h:bO c n L B o st)(H:B<=C){p:Nat}(I:o<=p):bO c n L C p st:=⟨h.bd.mono H,h.v,h.len,by have:=h.ops;omega⟩
def wg(s:Ar)(d:Dr):eO s (aj s d).1:=by
 unfold aj;split
 .split;.exact gw _ _
  .exact gw _ _
 .exact⟨Nat.le_succ _,rfl⟩
def zo(h:bO c n L B o x.st)(k:kZ c n N L)(hB:40<=B)(Y:B<=1000000000000){i:Nat}(hi:i<n)(pc:Int):bO c n L (B+4) (o+1) (iD c N x i pc).1:=by
 have LZ:∀z,bO c n L (B+2) (o+1) (onA x.st (addA x.st.s z 1)):=λz=>h.on ahB (h.bd.w.add1 ahB ahB z) (lE _ _ _);have H:∀z v,0<=v/\v<=1->bO c n L (B+2) (o+1) (onA x.st (ae x.st.s z v)):=λz v O=>h.on ahB ((h.bd.w.mono ahB).store z v ahB) (i1 _ _ _);have V:∀{st'},bO c n L (B+2) (o+1) st'->bO c n L (B+4) (o+1) (bC c st' i):=λ{st'} q=>by exact ab0
 have I:∀{st'},bO c n L (B+2) (o+1) st'->bO c n L (B+4) (o+1) (aA st' i):=λ{st'} q=>by exact ab1
 unfold iD;split;.exact ab2
 split;.exact V (LZ _)
 split;.exact I (LZ _)
 split;.exact(H _ _ ahB).mono ahB
 split;.exact h.on ahB ((h.bd.w.mono ahB).same (gZ _ _)) (wg _ _)
 split;.exact ab2
 split;.exact I (H _ _ ahB)
 .exact ab3
def zq(h:bO c n L B o x.st)(k:kZ c n N L)(I:40<=B)(H:B<=1000000000000){i:Nat}(hi:i<n):bO c n L (B+4) (o+1) (cG c N x i).st:=by
 unfold cG;split;.exact h.up ahB ahB
 split;.exact h.on ahB ((h.bd.w.mono ahB).load _) (gw _ _)
 .exact zo h k I H hi _
def lJ(h:bO c n L B o x.st)(k:kZ c n N L)(H:40<=B){i:Nat}(hi:i<n)(r:Bool):bO c n L (B+4) o (cH c x i r).st/\(cH c x i r).st.s=x.st.s:=by
 unfold cH;split
 .split;.exact⟨h.up ahB (Nat.le_refl _),rfl⟩
  .have q:=h.ask k ahB hi;exact⟨⟨q.bd.mono ahB,q.v,q.len,by show(bC c x.st i).s.ops<=o;rw[gI];exact h.ops⟩,gI _ _ _⟩
 .exact⟨h.up ahB (Nat.le_refl _),rfl⟩
def kX(x:Nu)(i:Nat):(aE x i).st=x.st:=by unfold aE;split<;>rfl
structure NuK(c:CoC)(n N L:Nat)(ml:Nat->Nat):Prop where
 w:kZ c n N L
 y:cK c n N ml
 tg:c.tg=2*(N:Int)+2
 len:2*(N:Int)+1<=(L:Int)
 N1:1<=N
structure NuS(c:CoC)(n N L:Nat)(ml:Nat->Nat)(B:Int)(x:Nu):Prop where
 i:NuI c n N ml x
 ok:bO c n L B x.st.s.ops x.st
def sx(c:CoC)(N:Nat)(x:Nu)(kd i:Int):Nu:=
 if okI x.U i then if kd=0 then cG c N x i.toNat else if kd=1 then cH c x i.toNat false else if kd=2 then aE x i.toNat else if kd=3 then cH c x i.toNat true else x else x
def NuS.act(h:NuS c n N L ml B x)(k:NuK c n N L ml)(H:40<=B)(I:B<=1000000000000)(kd i:Int):NuS c n N L ml (B+4) (sx c N x kd i)/\(sx c N x kd i).st.s.ops<=x.st.s.ops+1/\(kd≠0->(sx c N x kd i).st.s.ops=x.st.s.ops):=by
  have same:NuS c n N L ml (B+4) x:=⟨h.i,h.ok.mono ahB⟩;unfold sx;split
  . rename_i O;have hi:i.toNat<n:=(by obtain⟨V,h1⟩:=O;have:=h.i.lU;omega);split;. rename_i k0;have q:=zq h.ok k.w H I hi;refine⟨⟨h.i.step k.y ⟨k.tg,by rw[h.ok.len];exact k.len⟩ h.ok.bd H I hi,⟨q.bd,q.v,q.len,Nat.le_refl _⟩⟩,q.ops,λe=>absurd k0 e⟩
    split;. have q:=lJ h.ok k.w H hi false;refine⟨⟨h.i.ask k.y hi false,by rw[q.2];exact q.1⟩,by rw[q.2];omega,λ_=>by rw[q.2]⟩
    split;. have e:=kX x i.toNat;refine⟨⟨h.i.leave hi,by rw[e];exact same.ok⟩,by rw[e];omega,λ_=>by rw[e]⟩
    split;. have q:=lJ h.ok k.w H hi true;refine⟨⟨h.i.ask k.y hi true,by rw[q.2];exact q.1⟩,by rw[q.2];omega,λ_=>by rw[q.2]⟩
    . exact⟨same,by omega,λ_=>rfl⟩
  . exact⟨same,by omega,λ_=>rfl⟩
end
section
variable{kg kl par:Nat}{bud:Int}{s:Ar}
def xW(hs:s.W=[])(N:Nat):WdB 0 (smA s N)/\(smA s N).W.length=2*N+1:=by
 have e:(smA s N).W=(s.W++List.replicate (2*N) 0)++List.replicate 1 0:=rfl;rw[hs,List.nil_append]at e;refine⟨λv O=>?_,by rw[e];simp⟩;rw[e]at O;rcases List.mem_append.1 O with h1|h1
 .rw[(List.mem_replicate.1 h1).2];omega
 .rw[(List.mem_replicate.1 h1).2];omega
def EB(hc:a5 P T=0)(H:1<=kg/\kg<=5)(h:1<=kl/\kl<=5)(I:1<=par/\par<=4)(hs:s.W=[])(hN:1<=(ac P).length):NuK (fm kg kl par bud P T (smA s (ac P).length)) T.length (ac P).length (bG kg kl par P T (smA s (ac P).length)).s.W.length (mtQ P T):=by
  have hw:=ws (bud:=bud) (s:=smA s (ac P).length) hc H h I;have V:=(xW hs (ac P).length).2;have O:(fm kg kl par bud P T (smA s (ac P).length)).tg=2*((ac P).length:Int)+2:=by show(((smA s (ac P).length).W.length+1:Nat):Int)=_;rw[V];omega
  refine⟨hw,vW (bud:=bud) hc H h I,O,?_,hN⟩;have:=hw.tg;rw[O]at this;omega
def JX(hc:a5 P T=0)(LG:1<=kg/\kg<=5)(Y:1<=kl/\kl<=5)(hp:1<=par/\par<=4)(hs:s.W=[]):NuS (fm kg kl par bud P T (smA s (ac P).length)) T.length (ac P).length (bG kg kl par P T (smA s (ac P).length)).s.W.length (mtQ P T) 40 ⟨bG kg kl par P T (smA s (ac P).length),dr0,List.replicate T.length Sp.zero⟩/\(bG kg kl par P T (smA s (ac P).length)).s.ops<=s.ops+40:=by
  refine ajL ?_;intro hz Pb mT;have hw:∀y:Int,y<=((smA s (ac P).length).W.length:Int)->ldW (bG kg kl par P T (smA s (ac P).length)).s.W y=0:=λy hy=>by exact ab4
  have h:∀i,sv (List.replicate T.length Sp.zero) i=Sp.zero:=svR _;refine⟨⟨⟨xN hc LG Y hp Pb,by simp,λi hi=> .inl ⟨?_,?_⟩,λa V=>?_,λi hi hw=>?_,λi hi h0 O=>?_,λi hi h0 O=>?_⟩,⟨mT.bd,mT.v,mT.len,Nat.le_refl _⟩⟩,mT.ops⟩;. show(sv (List.replicate T.length Sp.zero) i).pc=0;rw[h];rfl
  . show(sv (List.replicate T.length Sp.zero) i).pc=0;rw[h];rfl
  . have hc0:kQ (fm kg kl par bud P T (smA s (ac P).length)) T.length (List.replicate T.length Sp.zero) a=0:=(by unfold kQ jo;refine List.countP_eq_zero.2 (λj _=>?_);rw[h];simp[jC,Sp.zero]);show ldW _ _=ldW _ _+((kQ _ _ (List.replicate T.length Sp.zero) a:Nat):Int);rw[hc0];have g1:=eY V;have g2:=bH V;unfold nuFl at g1 g2;have hl:=hz.2;rw[hw _ ah9,hw _ ah9];rfl
  . have I:wrP (sv (List.replicate T.length Sp.zero) i):=hw;rw[h]at I;unfold wrP Sp.zero at I;simp at I
  . have H:(sv (List.replicate T.length Sp.zero) i).pc=9:=O;rw[h]at H;simp[Sp.zero]at H
  . have H:(sv (List.replicate T.length Sp.zero) i).pc=10:=O;rw[h]at H;simp[Sp.zero]at H
end
end
section
open Go Go.RowKit
variable{c:CoC}
structure kO where
 ty:TypeId
 pt:TypeId
 md:Int
 step:CoC->Nat->Nu->Nat->Nu
 ask:CoC->Nu->Nat->Bool->Nu
 ok:CoC->Nat->Nat->Nat->(Nat->Nat)->Int->Nu->Prop
def rwQ(q:Nat):Value:= ↑q
def rwC(F:kO)(l:Nat):Array Value:=#[J F.md,.iface F.pt ↑l]
def rwV(q:Nat):Value:= .iface 192 (agg #[↑q])
def kO.Act(F:kO)(B BC:Nat->Prop)(w:World)(a g:Nat)(X:SmX)(c:CoC)(P T:List Int)(x':Nu)(r:Bool)(e:Ending)(w':World):Prop:=
 e= returned (.bool r)/\aw F.ty B BC w' a g X c P T x'.st x'.d x'.U/\aa (SmS a g X) w w'
structure kO.Ok(F:kO)(c:CoC)(P T:List Int)(L:Nat):Prop where
 act:∀B x,F.ok c T.length (ac P).length L (mtQ P T) B x->40<=B->B<=1000000000000->∀i,i<T.length->
  (F.ok c T.length (ac P).length L (mtQ P T) (B+4) (F.step c (ac P).length x i)/\(F.step c (ac P).length x i).st.s.ops<=x.st.s.ops+1)/\
  (∀r,F.ok c T.length (ac P).length L (mtQ P T) (B+4) (F.ask c x i r))/\F.ok c T.length (ac P).length L (mtQ P T) (B+4) (aE x i)
 mono:∀B B' x,F.ok c T.length (ac P).length L (mtQ P T) B x->B<=B'->F.ok c T.length (ac P).length L (mtQ P T) B' x
 lU:∀B x,F.ok c T.length (ac P).length L (mtQ P T) B x->x.U.length=T.length
 safe:∀B x,F.ok c T.length (ac P).length L (mtQ P T) B x->∀i j,i<T.length->j<T.length->(sv x.U i).pc=10->(sv x.U j).pc=10->(sv x.U i).a=0->j=i/\(sv x.U j).a=0
 link:∀B x,F.ok c T.length (ac P).length L (mtQ P T) B x->∀i,i<T.length->0<=(sv x.U i).pc/\((sv x.U i).pc≠0->(sv x.U i).a=0\/(sv x.U i).a=1)
 askS:∀x i r,(F.ask c x i r).st.s=x.st.s
 cS:∀(B BC:Nat->Prop) (w:World) (a g:Nat) (X:SmX) (q:Nat) (x:Nu) (BB:Int) (i:Nat),aw F.ty B BC w a g X c P T x.st x.d x.U->F.ok c T.length (ac P).length L (mtQ P T) BB x->40<=BB/\BB<=10000000000->x.st.s.ops+1<=1000000000000->Blk w q 273 (rwC F X.l)->i<T.length->
  Calls prog 356 #[rwQ q,int i64 i] w (F.Act B BC w a g X c P T (F.step c (ac P).length x i) (di (sv x.U i) (sv (F.step c (ac P).length x i).U i)))
 cA:∀(B BC:Nat->Prop) (w:World) (a g:Nat) (X:SmX) (q:Nat) (x:Nu) (i:Nat) (r:Bool),aw F.ty B BC w a g X c P T x.st x.d x.U->Blk w q 273 (rwC F X.l)->i<T.length->
  Calls prog 352 #[rwQ q,int i64 i,.bool r] w (F.Act B BC w a g X c P T (F.ask c x i r) (decide ((sv x.U i).pc=0)))
 cL:∀(B BC:Nat->Prop) (w:World) (a g:Nat) (X:SmX) (q:Nat) (x:Nu) (i:Nat),aw F.ty B BC w a g X c P T x.st x.d x.U->Blk w q 273 (rwC F X.l)->i<T.length->((sv x.U i).pc=10->(sv x.U i).a=0\/(sv x.U i).a=1)->
  Calls prog 353 #[rwQ q,int i64 i] w (F.Act B BC w a g X c P T (aE x i) (decide ((sv x.U i).pc=10)))
 cP:∀(B BC:Nat->Prop) (w:World) (a g:Nat) (X:SmX) (q:Nat) (x:Nu) (i:Nat),aw F.ty B BC w a g X c P T x.st x.d x.U->Blk w q 273 (rwC F X.l)->i<T.length->
  Calls prog 355 #[rwQ q,int i64 i] w λe w'=>e= returned (aF (sv x.U i))/\Below w.heap.size w w'
structure RwB where
 B:Nat->Prop
 BC:Nat->Prop
 a:Nat
 g:Nat
 X:SmX
 q:Nat
 bt:Nat
 hi:Nat
def aw.farR{ty:TypeId}{B BC:Nat->Prop}{w:World}{a g:Nat}{X:SmX}{st:Co}{d:Dr}{U:List Sp}{S:List Nat}(h:aw ty B BC w a g X c P T st d U)(t:aa S w w')(h1:∀i∈S,¬B i/\¬fb X.x BC i/\i≠X.l/\i≠X.gg)(Y:∀i∈S,i∉SmS a g X):aw ty B BC w' a g X c P T st d U:=by have I:∀j,j∈SmS a g X->j∉S:=λj H hm=>Y j hm H;have ha:=I a (by simp[SmS,CoS]);have hg:=I g (by simp[SmS,CoS]);have O:=h.gd.ar.turns t ha hg;have k:=h.co.arAway t (s':=st.s) O (λj H=> .inr (.inr (h1 j H).2.1));have V:X.gg∉S:=λm=>(h1 _ m).2.2.2 rfl;exact {h with lk:=t.blk h.lk (λm=>(h1 _ m).2.2.1 rfl),gd:={h.gd with ar:=O,ga:=t.blk h.gd.ga V,dr:=t.blk h.gd.dr (I _ (by simp[SmS]))},tb:=h.tb.turns t (λj H=>(h1 j H).1),sp:=h.sp.turns t (I _ (by simp[SmS])),co:=k}
def Ei(F:kO)(c:CoC)(P T:List Int)(L:Nat):LkM T.length where
 σ:=Nu
 β:=RwB
 ok:=λst N=>F.ok c T.length (ac P).length L (mtQ P T) (40+4*N) st/\st.st.s.ops<=N+1000
 ar:=λst=>st.st.s
 sp:=λst i=>sv st.U i
 cn:=λst i=>if (sv st.U i).pc=10 then 1 else 0
 rd:=true
 step:=F.step c (ac P).length
 ask:=F.ask c
 leave:=aE
 bt:=λb=>b.bt
 hi:=λb=>b.hi
 fp:=λb=>SmS b.a b.g b.X
 is:=λb w a g lb st=>aw F.ty b.B b.BC w a g b.X c P T st.st st.d st.U/\(b.a=a/\b.g=g)/\jE w lb T.length (10+F.md) (rwV b.q) (SmS b.a b.g b.X) b.bt b.hi/\(Blk w b.q 273 (rwC F b.X.l)/\(b.bt<=b.q/\b.q<b.hi)/\b.q∉SmS b.a b.g b.X)/\∀i,b.B i\/fb b.X.x b.BC i\/i=b.X.l\/i=b.X.gg->b.bt<=i/\i<b.hi
def pe(x:Nu)(i:Nat):(aE x i).st.s=x.st.s:=by unfold aE;split<;>rfl
def ze{F:kO}(hm:1<=F.md/\F.md<=3)(hc:a5 P T=0)(H:F.Ok c P T L):(Ei F c P T L).Good where
 n32:=by have:=bh (aR hc).1;exact⟨this.2.2.1,this.2.2.2⟩
 okS:=fun(st:Nu) N i h hN hi=>by
  unfold lkB at hN
  have:=(H.act _ _ h.1 ahB ahB i hi).1
  exact⟨H.mono _ _ _ this.1 ahY,by have:=h.2;have:=(H.act _ _ h.1 ahB ahB i hi).1.2;show(F.step c (ac P).length st i).st.s.ops<=_;omega⟩
 okA:=fun(st:Nu) N i r h hN hi=>by
  unfold lkB at hN
  have:=(H.act _ _ h.1 ahB ahB i hi).2.1 r
  exact⟨H.mono _ _ _ this ahY,by have:=h.2;show(F.ask c st i r).st.s.ops<=_;rw[H.askS];omega⟩
 okL:=fun(st:Nu) N i h hN hi=>by
  unfold lkB at hN
  have:=(H.act _ _ h.1 ahB ahB i hi).2.2
  exact⟨H.mono _ _ _ this ahY,by have:=h.2;show(aE st i).st.s.ops<=_;rw[pe];omega⟩
 okm:=fun(st:Nu) N h=>⟨H.mono _ _ _ h.1 ahY,by have:=h.2;omega⟩
 one:=fun(st:Nu) N i j h hi hj h1 h2 h3=>by
  have e1:(sv st.U i).pc=10:=h1
  have l1:=(H.link _ _ h.1 i hi).2 ahB
  have O:(true&&decide ((sv st.U i).a=1))=false:=h3
  simp only[Bool.true_and,decide_eq_false_iff_not]at O
  exact(H.safe _ _ h.1 i j hi hj h1 h2 ahB).1.symm
 pcs:=fun(st:Nu) N i h hi=>(H.link _ _ h.1 i hi).1
 cnt:=fun(st:Nu) N i h hi=>by
  show(sv st.U i).pc=10↔0<(if (sv st.U i).pc=10 then(1:Int)else 0)
  split<;>simp[*]
 opsS:=fun(st:Nu) N i h hN hi=>by
  unfold lkB at hN
  exact(H.act _ _ h.1 ahB ahB i hi).1.2
 arA:=fun(st:Nu) i r=>H.askS st i r
 arL:=fun(st:Nu) i=>pe st i
 ais:=fun(b:RwB) w a g lb (st:Nu) h=>h.1.gd.ar
 lk:=fun(b:RwB) w a g lb (st:Nu) h=>h.2.2.1.c1
 kd:=fun(b:RwB) w a g lb (st:Nu) h=>⟨_,h.2.2.1.blk.cell 0,(decide_eq_true ahB).symm⟩
 fpa:=fun(b:RwB) w a g lb (st:Nu) h=>⟨λx Y=>(h.2.2.1.fl x Y).2,h.2.2.1.hw⟩
 far:=fun(b:RwB) w a g lb (st:Nu) w' S h t hS=>by
  obtain⟨k,⟨rfl,rfl⟩,hd,hq,hl⟩:=h
  have I:∀x∈S,b.hi<=x\/x<b.bt:=hS
  have V:=hd.fl
  refine⟨k.farR t (λi m=>⟨λz=>?_,λz=>?_,λz=>?_,λz=>?_⟩) (λi m z=>?_),⟨rfl,rfl⟩,hd.far t I,⟨t.blk hq.1 (λm=>by have:=I _ m;have:=hq.2.1;omega),hq.2⟩,hl⟩
  .have:=I i m;have:=hl i (.inl z);omega
  .have:=I i m;have:=hl i (.inr (.inl z));omega
  .have:=I i m;have:=hl i (.inr (.inr (.inl z)));omega
  .have:=I i m;have:=hl i (.inr (.inr (.inr z)));omega
  .have:=I i m;have:=V i z;omega
 cS:=fun(b:RwB) w a g lb (st:Nu) N i h hk hN hi=>by
  unfold lkB at hN
  obtain⟨k,⟨rfl,rfl⟩,hd,hq,hl⟩:=h
  refine(oC .rw hd.c1 hd.c2 hi (R:=λr w'=>r=di (sv st.U i) (sv (F.step c (ac P).length st i).U i)/\aw F.ty b.B b.BC w' b.a b.g b.X c P T (F.step c (ac P).length st i).st (F.step c (ac P).length st i).d (F.step c (ac P).length st i).U/\aa (SmS b.a b.g b.X) w w') λW bw=>?_).mono ?_
  .refine(H.cS _ _ _ _ _ _ _ _ _ i (k.below bw) hk.1 ahB (by have:=hk.2;omega) (hq.1.below bw hq.1.lt) hi).mono ?_
   exact abp
  .exact ab5
 cA:=fun(b:RwB) w a g lb (st:Nu) N i r h hk hN hi=>by
  obtain⟨k,⟨rfl,rfl⟩,hd,hq,hl⟩:=h
  refine(DK hd.c1 hd.c2 hi r (R:=λq w'=>q=decide ((sv st.U i).pc=0/\(r=true->(true:Bool)=true))/\aw F.ty b.B b.BC w' b.a b.g b.X c P T (F.ask c st i r).st (F.ask c st i r).d (F.ask c st i r).U/\aa (SmS b.a b.g b.X) w w') (λW bw=>?_)).mono ?_
  .refine(H.cA _ _ _ _ _ _ _ _ i r (k.below bw) (hq.1.below bw hq.1.lt) hi).mono ?_
   exact abr
  .exact ab5
 cL:=fun(b:RwB) w a g lb (st:Nu) N i h hk hN hi=>by
  obtain⟨k,⟨rfl,rfl⟩,hd,hq,hl⟩:=h
  refine(kT .rw hd.c1 hd.c2 hi (R:=λq w'=>q=decide ((sv st.U i).pc=10)/\aw F.ty b.B b.BC w' b.a b.g b.X c P T (aE st i).st (aE st i).d (aE st i).U/\aa (SmS b.a b.g b.X) w w') λW bw=>?_).mono ?_
  .refine(H.cL _ _ _ _ _ _ _ _ i (k.below bw) (hq.1.below bw hq.1.lt) hi (λe=>(H.link _ _ hk.1 i hi).2 ahB)).mono ?_
   exact abp
  .exact ab5
 cP:=fun(b:RwB) w a g lb (st:Nu) i h hi=>oA .rw h.2.2.1.c1 h.2.2.1.c2 hi _ λW bw=>H.cP _ _ _ _ _ _ _ _ i (h.1.below bw) (h.2.2.2.1.1.below bw h.2.2.2.1.1.lt) hi
 cC:=fun(b:RwB) w a g lb (st:Nu) i h hi=>oz .rw h.2.2.1.c1 h.2.2.1.c2 hi _ λW bw=>H.cP _ _ _ _ _ _ _ _ i (h.1.below bw) (h.2.2.2.1.1.below bw h.2.2.2.1.1.lt) hi
end
section
open Go.RowKit
structure SmB(B BC:Nat->Prop)(w0 w:World)(a g:Nat)(X:SmX)(c:CoC)(P T:List Int)(st:Co)(d:Dr)(U:List Sp)(bx:Nat):Prop where
 is:aw 330 B BC w a g X c P T st d U
 bk:Blk w bx 274 #[↑X.l]
 nS:bx∉SmS a g X
 tn:aa (SmS a g X) w0 w
section
variable{B BC:Nat->Prop}{w:World}{a g bx:Nat}{X:SmX}{c:CoC}{st st':Co}{d d':Dr}{U:List Sp}{s':Ar}
def aw.lts(h:aw 330 B BC w a g X c P T st d U):∀r∈SmS a g X,r<w.heap.size:=by exact acb
def SmB.to(h:SmB B BC w0 w a g X c P T st d U bx)(k:aw 330 B BC w' a g X c P T st' d' U)(t:aa (SmS a g X) w w'):SmB B BC w0 w' a g X c P T st' d' U bx:=⟨k,t.blk h.bk h.nS,h.nS,h.tn.trans t⟩
def SmB.drew(h:SmB B BC w0 w a g X c P T st d U bx):SmB B BC w0 w.drew a g X c P T st d U bx:=h.to (h.is.below (Below.refl _ _).drew) (aa.refl _ _).drew
def SmB.new(h:aw 330 B BC w a g X c P T st d U):SmB B BC w (w.alloc (cells #[↑X.l] 274)) a g X c P T st d U w.heap.size:=
 ⟨h.below ((Below.refl _ _).alloc (Nat.le_refl _) _),Blk.new w _ _,λk=>by have:=h.lts _ k;omega,(aa.refl _ _).alloc _⟩
def SmB.cs(h:SmB B BC w0 w a g X c P T st d U bx):w.cell? bx=some ↑X.l/\w.cell? X.l=some ↑a/\Z w X.l 1 ↑X.b/\Z w X.l 3 ↑X.dd/\Z w X.l 4 (J (2*((ac P).length:Int)+1)):=⟨h.bk.cell 0,h.is.cs.1,h.is.cs.2.1,h.is.cs.2.2.2.1,h.is.cs.2.2.2.2.1⟩
def SmB.ag(h:SmB B BC w0 w a g X c P T st d U bx)(t:aa [a,g] w w')(H:aB w' a g s'):SmB B BC w0 w' a g X c P T (onA st s') d U bx:=h.to (h.is.arT t H) (fz t)
def SmB.gd(h:SmB B BC w0 w a g X c P T st d U bx)(t:aa [a,g,X.dd] w w')(k:GD w' a g X.gg X.dd (ac P).length s' d'):SmB B BC w0 w' a g X c P T (onA st s') d' U bx:=h.to (h.is.gdT t k) (jv t)
def SmB.co(h:SmB B BC w0 w a g X c P T st d U bx)(t:aa (CoS a g X.x) w w')(k:aC BC w' a g X.x c P T st'):SmB B BC w0 w' a g X c P T st' d U bx:=h.to (h.is.coT t k) (ii t)
def aw.node(h:aw 330 B BC w a g X c P T st d U)(hn:n<T.length):(c.node n)<(ac P).length/\(aq P T T.length)[n]? =some ((c.node n:Nat):Int):=by exact acc
def Fk(h:SmB B BC w0 w a g X c P T st d U bx)(v:Int)(V:st.s.ops+1<=1000000000000):E 370 #[J v,↑bx] w λe w'=>e= returned (tuple #[])/\SmB B BC w0 w' a g X c P T (onA st (ae st.s (nuFl (ac P).length) v)) d U bx:=by
 have O:=qh (λW (k:SmB B BC w0 W a g X c P T st d U bx)=>an k.is.gd.ar (2*((ac P).length:Int)+1) v V);have N1:=qh h.drew;clear h;go_enter func370,ntmps370;go_wp2_with fail
 go_region_held3 (λW=>W.cell? bx=some ↑X.l/\W.cell? X.l=some ↑a/\Z W X.l 4 (J (2*((ac P).length:Int)+1)))
  (first|exact⟨N1.o.cs.1,N1.o.cs.2.1,N1.o.cs.2.2.2.2⟩|exact⟨H.o.cs.1,H.o.cs.2.1,H.o.cs.2.2.2.2⟩)
  (first
   |(go_at_call 177;go_loud (refine Op (O.o _ N1.o) λw3 I=>?_);have H:=qh (N1.o.ag I.o.2 I.o.1)))
 go_wp2;go_end0;exact⟨rfl,H.o⟩
def uR(B BC:Nat->Prop)(w:World)(a g:Nat)(X:SmX)(c:CoC)(P T:List Int)(r:Co×Dr×Bool)(U:List Sp)(e:Ending)(w':World):Prop:=
 e= returned (.bool r.2.2)/\aw 330 B BC w' a g X c P T r.1 r.2.1 U/\aa (SmS a g X) w w'
def Hy{pc:Int}{h:Co}{d0:Dr}(k:SmB B BC w w' a g X c P T st' d' U bx)(H:iD c (ac P).length ⟨h,d0,U⟩ n pc=(st',d',r)):uR B BC w a g X c P T (iD c (ac P).length ⟨h,d0,U⟩ n pc) U (returned (.bool r)) w':=by rw[H];exact⟨rfl,k.is,k.tn⟩
def xy(h:Q:=by
    go_wp2
    go_ret
    exact Hy N3.o (by first|rfl|(rw[HQ.o];rfl))):Q:=h
def Hu(h:Q:=by
    have l5:=N2.o.is.cs.2.2.2.2.2.1
    have l0:=N2.o.bk.cell 0
    go_wp2_with fail
    refine Op (HL.o _ N2.o) λw3 k3=>?_
    have N3:=qh (N2.o.co k3.o.2 k3.o.1)
    exact xy):Q:=h
def DN(h:Q:=by
    go_wp2_with fail
    refine Op (HG.o _ N0.o) λw2 a2=>?_
    have N3:=qh (N0.o.ag a2.o.2 a2.o.1)
    have N2:=N3
    first
      | exact Hu
      | exact xy):Q:=h
def Hv(h:Q:=by
    go_wp2_with fail
    refine(HL.o _ N0.o).mono ?_
    rintro en w4 ⟨rfl,k4,t4⟩
    first
      | have N3:=qh (N0.o.co t4 k4)
      | have N3:=qh (N0.o.gd t4 k4)
    clear k4 t4
    exact xy):Q:=h
def FX(h:aw 330 B BC w a g X c P T st d U)(n:Nat)(hn:n<T.length)(pc:Int)(Ki:(sv U n).pc=pc)(V:st.s.ops+1<=1000000000000)(hN:1<=(ac P).length)(hb:pc=9->d.busy=true->d.at_<(ac P).length)(C:dg BB X.x c st)(KJ:pc=1\/pc=11\/pc=3\/pc=5\/pc=12\/pc=8\/pc=9\/pc=4\/pc=6\/pc=7\/pc=13):E 368 #[↑X.l,J n] w (uR B BC w a g X c P T (iD c (ac P).length ⟨st,d,U⟩ n pc) U):=by
 have hp:=h.thr hn;obtain⟨O,Kw⟩:=h.node hn;have hx:=h.nT;have N0:=qh (SmB.new h);have ME:=qh (kK (w.alloc (cells #[↑X.l] 274)) X.b P T n hn N0.o.is.tb.f _ Kw);have t2:¬(n:Int)<0:=by omega
 have hl:=h.lk.lt;have hq:=h.sp.lt;have Kz:n<X.x.n:=by rw[hx.1];exact hn
 obtain⟨p,mP⟩:=LE (sv U n);rw[<-mP]at hp Ki;obtain⟨pc,u,b,z⟩:=p;simp only at Ki;subst Ki;have a0:=ST (N0.o.is.sp.cell hp 0 _ rfl);have d2:=N0.o.is.cs.2.2.1;have d3:=N0.o.is.cs.2.2.2.1;have d5:=N0.o.is.cs.2.2.2.2.2.1;have d6:=N0.o.is.cs.2.2.2.2.2.2;have HA:=qh (show 2*((c.node n:Nat):Int)+1=gaA (c.node n)/\2*((c.node n:Nat):Int)+1+1=gaW (c.node n)by unfold gaA gaW;omega);have GE:=λW (k:SmB B BC w W a g X c P T (st) d U w.heap.size)=>ra k.is.gd.ga k.is.gd.ar (c.node n) O k.is.gd.n32 V;have GX:=λW (k:SmB B BC w W a g X c P T (st) d U w.heap.size)=>rb k.is.gd.ga k.is.gd.ar (c.node n) O k.is.gd.n32 V;simp only[HA.o.1,HA.o.2]at GE GX;have HH:=qh (And.intro GE GX);clear h hp mP Kw O GE GX HA;go_enter func368,ntmps368;have e1:=N0.o.cs;go_wp2_with fail;refine LT ME.o ?_;clear ME;rcases KJ with rfl|rfl|rfl|rfl|rfl|rfl|rfl|rfl|rfl|rfl|rfl
 .have HG:=qh HH.o.1;exact DN
 .have HG:=qh HH.o.2;exact DN
 .have HG:=qh HH.o.2;have HL:=qh (λW (k:SmB B BC w W a g X c P T (onA st (addA st.s (gaW (c.node n)) 1)) d U w.heap.size)=>sC k.is.co n Kz);exact DN
 .have HG:=qh HH.o.1;have HL:=qh (λW (k:SmB B BC w W a g X c P T (onA st (addA st.s (gaA (c.node n)) 1)) d U w.heap.size)=>lx k.is.co n Kz);exact DN
 .have HG:=qh (λW (k:SmB B BC w W a g X c P T (st) d U w.heap.size)=>Fk k 0 V);have HL:=qh (λW (k:SmB B BC w W a g X c P T (onA st (ae st.s (nuFl (ac P).length) 0)) d U w.heap.size)=>lx k.is.co n Kz);go_wp2_with fail;refine Op (HG.o _ N0.o) λw2 N2=>?_;exact Hu
 .have HG:=qh (λW (k:SmB B BC w W a g X c P T (st) d U w.heap.size)=>Fk k 1 V);have HL:=qh (λW (k:SmB B BC w W a g X c P T (onA st (ae st.s (nuFl (ac P).length) 1)) d U w.heap.size)=>nj k.is.gd hN false);have OF:=qh (λW (k:SmB B BC w W a g X c P T (onA st (ae st.s (nuFl (ac P).length) 1)) d U w.heap.size)=>lH W X.b P T k.is.tb.f);go_wp2_with fail;refine Op (HG.o _ N0.o) λw2 N2=>?_;have Y:=qh N2.o.drew;go_wp2_with fail
  go_region_held3 (λW=>W.cell? w.heap.size=some ↑X.l/\Z W X.l 1 ↑X.b/\Z W X.l 3 ↑X.dd)
   (first|exact⟨Y.o.cs.1,Y.o.cs.2.2.1,Y.o.cs.2.2.2.1⟩|exact⟨N3.o.cs.1,N3.o.cs.2.2.1,N3.o.cs.2.2.2.1⟩)
   (first
    |(go_at_call 137;go_loud (refine LT (OF.o _ Y.o) ?_))
    |(go_at_call 373;go_loud (refine Op (HL.o _ Y.o) λw4 k4=>?_);have N3:=qh (Y.o.gd k4.o.2 k4.o.1)))
  exact xy
 .have H:=λW (k:SmB B BC w W a g X c P T (st) d U w.heap.size)=>nt k.is.gd (hb rfl) V;obtain⟨r,I⟩:=LE (aj st.s d);rw[<-I]at H;have HL:=qh H;have HQ:=qh I;clear I H;exact Hv
 all_goals have H:=λW (k:SmB B BC w W a g X c P T (st) d U w.heap.size)=>mK k.is.co C n Kz;obtain⟨q,Qd⟩:=LE (bv (sv st.T n) (sv (ak c st n).T n));rw[<-Qd]at H;have HL:=qh H;have HQ:=qh Qd;clear Qd H;exact Hv
end
end
section
open Go.RowKit
def Gy(w:World)(pc:Int)(h:pc=1\/pc=3\/pc=4\/pc=5\/pc=6\/pc=7\/pc=8\/pc=9\/pc=11\/pc=12\/pc=13):E 369 #[J pc] w λe w'=>e= returned (J (rH pc))/\w=w':=by
 rcases h with rfl|rfl|rfl|rfl|rfl|rfl|rfl|rfl|rfl|rfl|rfl
 all_goals go_enter func369,ntmps369;go_wp2;go_ret;exact⟨rfl,rfl⟩
section
variable{B BC:Nat->Prop}{w:World}{a g:Nat}{X:SmX}{c:CoC}{st st':Co}{d d':Dr}{U:List Sp}{s':Ar}
def xY(h:aw 330 B BC w a g X c P T st d U)(n:Nat)(hn:n<T.length)(hc:(sv U n).pc=0\/(sv U n).pc=10):E 365 #[↑X.l,J n] w (av 330 B BC w a g X c P T U n (cG c (ac P).length ⟨st,d,U⟩ n)):=by
 have Kt:=aP;have I:=px h n;have Y:=h.thr hn;have hg:getS U (n:Int)=sv U n:=by exact abX
 rw[hg]at I;refine ajw ?_;intro H t2 MX x' p mP r';rw[if_pos hc]at r';rw[<-mP]at hc I Y;have V:=qh I;have HX:=qh r';clear h Y mP r' hg I;obtain⟨pc,u,b,z⟩:=p;simp only at hc;unfold aF at V;rcases hc with rfl|rfl
 all_goals go_enter func365,ntmps365;go_wp2_with fail;refine Op V.o λw1 O=>?_;go_wp2;go_ret;rw[HX.o];first|exact av.stay (H.o.below O.o) (aa.of_below O.o) rfl|exact av.put HP.o (H.o.below O.o) (aa.of_below O.o) rfl ahL
def ET(h:aw 330 B BC w a g X c P T st d U)(n:Nat)(hn:n<T.length)(hc:(sv U n).pc=2)(V:st.s.ops+1<=1000000000000):E 365 #[↑X.l,J n] w (av 330 B BC w a g X c P T U n (cG c (ac P).length ⟨st,d,U⟩ n)):=by
  have Kt:=aP;have Y:=px h n;have hp:=h.thr hn;have hg:getS U (n:Int)=sv U n:=by exact abX
  rw[hg]at Y;refine ajw ?_;intro H t2 MX x' p mP r';rw[if_neg ahB,if_pos hc]at r';rw[<-mP]at hc Y hp r';have HS:=qh Y;have I:=qh hp;obtain⟨pc,u,b,z⟩:=p;simp only at hc r';subst hc;obtain⟨q,hq⟩:=LE (ldW st.s.W (nuFl (ac P).length));obtain⟨ab,mb⟩:=LE (af st.s (nuFl (ac P).length));have i':=(λW (k:aw 330 B BC W a g X c P T st d U)=>aD k.gd.ar (nuFl (ac P).length) V);rw[<-hq,<-mb]at i';rw[<-hq,<-mb]at r';have HX:=qh r';have HC:=qh (λW st (k:aw 330 B BC W a g X c P T st d U)=>And.intro k.cs.1 k.cs.2.2.2.2.1);have HO:=qh i';clear h hp mP r' hg Y hq mb i';unfold aF at HS;cases hz:(q==0)
  all_goals
    go_enter func365,ntmps365;go_wp2_with fail;refine Op HS.o λw1 b1=>?_;have K0:=qh (H.o.below b1.o);have K1:=qh (H.o.below b1.o.drew);have T1:=qh (aa.of_below (S:=SmS a g X) b1.o.drew);have d6:=K0.o.cs.2.2.2.2.2.2;go_wp2_with fail;first
    | (go_region_held3 (λW=>W.cell? X.l=some ↑a/\Z W X.l 4 (J (2*((ac P).length:Int)+1)))
        (first|exact HC.o _ _ K1.o|exact HC.o _ _ O.o)
        (first
          | (go_at_call 173;go_loud (refine Op (HO.o _ K1.o) λw3 a3=>?_);have O:=qh (K1.o.arT a3.o.2 a3.o.1);have T2:=qh (T1.o.trans (fz a3.o.2)))))
    | fail "held"
  all_goals
    have e0:=ST (O.o.sp.cell I.o 0 _ rfl);have z0:=O.o.sp.free (n*4)
    first
      | (have K3:=qh (O.o.put0 I.o (p':=(⟨10,u,b,z⟩:Sp)) (u:= J 10) rfl)
         go_wp2
         go_ret
         rw[HX.o,if_pos ah2]
         exact av.put I.o K3.o (T2.o.trans (eg _ _)) rfl (by first|rfl|decide))
      | (have K3:=qh (O.o.put0 I.o (p':=(⟨3,u,b,z⟩:Sp)) (u:= J 3) rfl)
         go_wp2
         go_ret
         rw[HX.o,if_neg ah2]
         exact av.put I.o K3.o (T2.o.trans (eg _ _)) rfl (by first|rfl|decide))
def EU(h:aw 330 B BC w a g X c P T st d U)(n:Nat)(hn:n<T.length)(pc u b z:Int)(hU:sv U n=⟨pc,u,b,z⟩)(hc:pc=1\/pc=3\/pc=4\/pc=5\/pc=6\/pc=7\/pc=8\/pc=9\/pc=11\/pc=12\/pc=13)(hD:∀W,aw 330 B BC W a g X c P T st d U->E 368 #[↑X.l,J n] W (uR B BC W a g X c P T (iD c (ac P).length ⟨st,d,U⟩ n pc) U)):E 365 #[↑X.l,J n] w (av 330 B BC w a g X c P T U n (cG c (ac P).length ⟨st,d,U⟩ n)):=by
  have Kt:=aP;have H':=px h n;have hp:=h.thr hn;have hg:getS U (n:Int)=sv U n:=by exact abX
  rw[hg]at H';refine ajw ?_;intro H t2 MX x' p mP r';have O:p=⟨pc,u,b,z⟩:=by rw[mP,hU]
  subst O;rw[<-mP,if_neg (show ¬(pc=0\/pc=10)by omega),if_neg (show ¬pc=2 by omega)]at r';rw[<-mP]at H' hp;have u0:(pc==0)=false:=by simp;omega
  have u1:(pc==10)=false:=by simp;omega
  have u2:(pc==2)=false:=by simp;omega
  have Py:=qh (λW=>Gy W pc hc);obtain⟨r,I⟩:=LE (iD c (ac P).length ⟨st,d,U⟩ n pc);rw[<-I]at hD r';obtain⟨s1,d1,q⟩:=r;obtain⟨v,UM⟩:=LE (rH pc);rw[<-UM]at Py;unfold nuTo at r';simp only at r';rw[<-UM]at r';have HX:=qh r';have HS:=qh H';have V:=qh hp;have HD:=qh hD;clear h hp mP r' hg H' hD I UM hU hc;unfold aF at HS;cases q;. skip;go_enter func365,ntmps365;go_wp2_with fail;refine ajU ?_;intro w1 b1 K1 T1 K0;have d6:=K0.o.cs.2.2.2.2.2.2;go_wp2_with fail;refine wp_region_held_drew (S:=(λ_=>True)) ahE (by exact trivial) (λhHeld=>?_);refine aja ?_;refine tk 9 ?_;refine aka ?_;refine tk 14 ?_;refine wpAnyH_done ahE ?_ _;go_wp2_with fail;refine Op (HD.o _ K1.o) λw3 k3=>?_;have Y:=qh k3.o.1;have T3:=qh (T1.o.trans k3.o.2);go_wp2;go_ret;rw[HX.o];refine av.put V.o (p':=⟨pc,u,b,z⟩) ?_ T3.o rfl (iq _);have k:=Y.o;rw[<-cj V.o]at k;exact k
  . cases v1:(v==10)<;>cases v2:(v==0);all_goals go_enter func365,ntmps365;go_wp2_with fail;refine ajU ?_;intro w1 b1 K1 T1 K0;have d6:=K0.o.cs.2.2.2.2.2.2;go_wp2_with fail;refine wp_region_held_drew (S:=(λ_=>True)) ahE (by exact trivial) (λhHeld=>?_);refine aja ?_;refine tk 9 ?_;refine aka ?_;refine tk 14 ?_;refine wpAnyH_done ahE ?_ _;go_wp2_with fail;refine Op (HD.o _ K1.o) λw3 k3=>?_;have Y:=qh k3.o.1;have T3:=qh (T1.o.trans k3.o.2);have e0:=ST (Y.o.sp.cell V.o 0 _ rfl);have z0:=Y.o.sp.free (n*4);have K4:=qh (Y.o.put0 V.o (p':=(⟨v,u,b,z⟩:Sp)) (u:= J v) rfl);go_wp2_with fail;refine LT (Py.o _) ?_;go_wp2;go_ret;rw[HX.o];first|exact av.stay (K4.o) (T3.o.trans (eg _ _)) rfl|exact av.put V.o (K4.o) (T3.o.trans (eg _ _)) rfl ahL
def EQ(h:aw 330 B BC w a g X c P T st d U)(n:Nat)(O:n<T.length)(hc:hJ (sv U n) (sv st.T n))(V:st.s.ops+1<=1000000000000)(hN:1<=(ac P).length)(hb:(sv U n).pc=9->d.busy=true->d.at_<(ac P).length)(C:dg BB X.x c st):E 365 #[↑X.l,J n] w (av 330 B BC w a g X c P T U n (cG c (ac P).length ⟨st,d,U⟩ n)):=by
  obtain⟨p,Y⟩:=LE (sv U n)
  have KJ:p.pc=0\/p.pc=10\/p.pc=2\/p.pc=1\/p.pc=3\/p.pc=4\/p.pc=5\/p.pc=6\/p.pc=7\/p.pc=8\/p.pc=9\/p.pc=11\/p.pc=12\/p.pc=13:=by
    rw[<-Y]at hc;unfold hJ at hc;rcases hc with⟨q1,_⟩|⟨_,H,_⟩|⟨_,H,_⟩|⟨_,H,_⟩|⟨_,H,_⟩|⟨_,H,_⟩|⟨_,H,_⟩|⟨_,H,_⟩
    all_goals omega
  obtain⟨pc,u,b,z⟩:=p;have I:(sv U n).pc=pc:=by rw[<-Y]
  simp only at KJ;rcases KJ with rfl|rfl|rfl|rfl|rfl|rfl|rfl|rfl|rfl|rfl|rfl|rfl|rfl|rfl
  . exact xY h n O (.inl I)
  . exact xY h n O (.inr I)
  . exact ET h n O I V
  all_goals exact EU h n O _ u b z Y.symm ahD (λW k=>FX k n O _ I V hN (λe=>hb (I.trans e)) C ahD)
end
end
section
open Go.RowKit
section
variable{B BC:Nat->Prop}{w:World}{a g:Nat}{X:SmX}{c:CoC}{st st':Co}{d d':Dr}{U:List Sp}{s':Ar}
def FF(h:aw 335 B BC w a g X c P T st d U)(n:Nat)(hn:n<T.length)(r:Bool):E 385 #[↑X.l,J n,.bool r] w (av 335 B BC w a g X c P T U n (cH c ⟨st,d,U⟩ n r)):=by
 have mT:okI U (n:Int):=⟨by omega,by rw[h.lU];omega⟩;have HH:=qh (BS h n true (decide_eq_true mT).symm);have hp:=h.thr hn;have H:=qh h;have V:=h.nT;have HA:=qh (sC h.co n (by rw[V.1];exact hn));obtain⟨x',O⟩:=LE (cH c ⟨st,d,U⟩ n r);rw[<-O];unfold cH at O;obtain⟨p,Y⟩:=LE (sv U n);simp only at O;rw[<-Y]at hp O;have c6:=h.cs.2.2.2.2.2.2;have c5:=h.cs.2.2.2.2.2.1;refine ai0 ?_;intro a0 a1 a2 a3;have f1:∀j,w.frozen? ⟨X.q,j,none⟩=false:=λj=>h.sp.free j;have t2:¬(n:Int)<0:=by omega
 have HX:=qh O;have HP:=qh hp;clear h hp Y mT V O;by_cases I:p.pc=0
 .have y1:(p.pc !=0)=false:=by simpa using I
  have HP0:=qh I;clear I;cases r;.go_enter func385,ntmps385;exact abU
  .go_enter func385,ntmps385;exact abV
 .have y1:(p.pc !=0)=true:=by simpa using I
  have HP0:=qh I;clear I;go_enter func385,ntmps385;exact abW
def Ce(h:aw 335 B BC w a g X c P T st d U)(n:Nat)(hn:n<T.length)(I:(sv U n).pc=10->(sv U n).a=0\/(sv U n).a=1):E 386 #[↑X.l,J n] w (av 335 B BC w a g X c P T U n (aE ⟨st,d,U⟩ n)):=by
 have Kt:=aP;have O:=py h n;have Y:=h.thr hn;have hg:getS U (n:Int)=sv U n:=by exact abX
 rw[hg]at O;refine aj6 ?_;intro H x' p mP r';rw[<-mP]at Y r' O I;have HS:=qh O;have HP:=qh Y;refine aj0 ?_;intro t2 MX;clear h Y mP hg O;obtain⟨pc,u,b,z⟩:=p;simp only at I r';unfold aF at HS;by_cases V:pc=10
 .subst V;have Lv:=I rfl;rw[if_pos rfl]at r';clear I;rcases Lv with rfl|rfl
  .have HX:Kq (x'=⟨st,d,U.set n ⟨12,0,b,z⟩⟩):=qh r';have x1:IntKind.i64.wrap 12=12:=IntWalk.i64_in _ ahB;clear r';go_enter func386,ntmps386;go_wp2_with fail;refine ajc ?_;intro w1 b1 K1 T1;have e0:=ST (K1.o.sp.cell HP.o 0 _ rfl);have z0:=K1.o.sp.free (n*4);have d6:=K1.o.cs.2.2.2.2.2.2;have l1:=K1.o.lk.lt;have l2:=K1.o.sp.lt;go_wp2;go_ret;rw[HX.o];first|exact av.stay ((K1.o.put0 HP.o (p':=(⟨12,0,b,z⟩:Sp)) rfl).below ((Below.refl _ _).alloc (Nat.le_refl _) _)) ((T1.o.trans (eg _ _)).alloc _) rfl|exact av.put HP.o ((K1.o.put0 HP.o (p':=(⟨12,0,b,z⟩:Sp)) rfl).below ((Below.refl _ _).alloc (Nat.le_refl _) _)) ((T1.o.trans (eg _ _)).alloc _) rfl ahL
  .have HX:Kq (x'=⟨st,d,U.set n ⟨11,1,b,z⟩⟩):=qh r';have x1:IntKind.i64.wrap 11=11:=IntWalk.i64_in _ ahB;clear r';go_enter func386,ntmps386;go_wp2_with fail;refine ajc ?_;intro w1 b1 K1 T1;have e0:=ST (K1.o.sp.cell HP.o 0 _ rfl);have z0:=K1.o.sp.free (n*4);have d6:=K1.o.cs.2.2.2.2.2.2;have l1:=K1.o.lk.lt;have l2:=K1.o.sp.lt;go_wp2;go_ret;rw[HX.o];first|exact av.stay ((K1.o.put0 HP.o (p':=(⟨11,1,b,z⟩:Sp)) rfl).below ((Below.refl _ _).alloc (Nat.le_refl _) _)) ((T1.o.trans (eg _ _)).alloc _) rfl|exact av.put HP.o ((K1.o.put0 HP.o (p':=(⟨11,1,b,z⟩:Sp)) rfl).below ((Below.refl _ _).alloc (Nat.le_refl _) _)) ((T1.o.trans (eg _ _)).alloc _) rfl ahL
 .have y1:(pc !=10)=true:=by simpa using V
  have HX:=qh r';have HP0:=qh V;clear V I r';go_enter func386,ntmps386;exact acd
end
end
section
open Go
variable{p':Sp}{s':Ar}
def fu(c:CoC)(N:Nat)(x:Nu)(i:Nat)(p:Sp):Co×Dr×Int:=
 if p.a=1 then
  if p.pc=1 then(onA x.st (addA x.st.s (gaA (c.node i)) 1),x.d,2)
  else if p.pc=2 then(onA x.st (af x.st.s (nuFl N)),x.d,if ldW x.st.s.W (nuFl N)=0 then 10 else 2)
  else(onA x.st (addA x.st.s (gaW (c.node i)) 1),x.d,0)
 else if p.pc=7 then(ak c x.st i,x.d,if bv (sv x.st.T i) (sv (ak c x.st i).T i)then 8 else 7)
 else if p.pc=12 then(aA (onA x.st (ae x.st.s (nuFl N) 0)) i,x.d,13)
 else if p.pc=13 then(ak c x.st i,x.d,if bv (sv x.st.T i) (sv (ak c x.st i).T i)then 0 else 13)
 else if p.pc=5 then(onA x.st (ae x.st.s (nuFl N) 0),dU x.d N false,6)
 else if p.pc=8 then(onA x.st (ae x.st.s (nuFl N) 1),dU x.d N true,9)
 else(onA x.st (aj x.st.s x.d).1,(aj x.st.s x.d).2.1,if (aj x.st.s x.d).2.2=false then p.pc else if p.pc=6 then 8 else if (aj x.st.s x.d).2.1.clear=true then 10 else 5)
def a7(c:CoC)(N:Nat)(x:Nu)(i:Nat):Nu:=
 if (sv x.U i).pc=0\/(sv x.U i).pc=10 then x
 else⟨(fu c N x i (sv x.U i)).1,(fu c N x i (sv x.U i)).2.1,x.U.set i {(sv x.U i)with pc:=(fu c N x i (sv x.U i)).2.2}⟩
def fI(p:Sp):Bool:=decide (p.a=1/\(p.pc=2\/p.pc=10\/p.pc=11))
def dF(p:Sp):Prop:=p.a=1/\(p.pc=10\/p.pc=11)
def gN(p:Sp):Prop:=p.a=0/\(p.pc=5\/p.pc=9\/p.pc=10\/p.pc=12)
def iy(p t:Sp):Prop:=
 (p.pc=0/\t.pc=0)\/(p.a=1/\(p.pc=1\/p.pc=2\/p.pc=10\/p.pc=11)/\t.pc=0)\/
  (p.a=0/\p.pc=7/\0<t.pc/\t.pc<10)\/(p.a=0/\(p.pc=5\/p.pc=6\/p.pc=8\/p.pc=9\/p.pc=10\/p.pc=12)/\t.pc=10)\/(p.a=0/\p.pc=13/\10<t.pc)
def gX(c:CoC)(n:Nat)(U:List Sp)(a:Nat):Nat:=jo n (λj=>decide (c.node j=a)&&fI (sv U j))
def Ag(c:CoC)(n N:Nat)(d:Dr)(W:List Int)(U:List Sp):Prop:=
 (d.busy=true/\d.once=true/\d.at_<N/\d.lim=N)/\(d.second=true->d.o<=ldW W (gaW d.at_))/\∀j,j<n->dF (sv U j)->d.at_<=c.node j
structure RsI(c:CoC)(n N:Nat)(ml:Nat->Nat)(x:Nu):Prop where
 m:CoM c n N ml x.st
 lU:x.U.length=n
 k:∀i,i<n->iy (sv x.U i) (sv x.st.T i)
 g:∀a,a<N->ldW x.st.s.W (gaA a)=ldW x.st.s.W (gaW a)+(gX c n x.U a:Int)
 fl:∀i,i<n->gN (sv x.U i)->ldW x.st.s.W (nuFl N)≠0
 dr:∀i,i<n->(sv x.U i).a=0->(sv x.U i).pc=9->Ag c n N x.d x.st.s.W x.U
 hd:∀i,i<n->(sv x.U i).a=0->(sv x.U i).pc=10->∀j,j<n->¬dF (sv x.U j)
section
variable{c:CoC}{x x':Nu}
def RsI.safe(h:RsI c n N ml x)(y:cK c n N ml){i:Nat}(hi:i<n)(h1:(sv x.U i).pc=10)(H:(sv x.U i).a=0)(hj:j<n)(I:(sv x.U j).pc=10):j=i/\(sv x.U j).a=0:=by
 have ki:=h.k i hi;have V:=h.k j hj;by_cases O:(sv x.U j).a=1;.exact absurd ⟨O,.inl I⟩ (h.hd i hi H h1 j hj)
 .have t1:(sv x.st.T i).pc=10:=by unfold iy at ki;omega
  have t2:(sv x.st.T j).pc=10/\(sv x.U j).a=0:=by unfold iy at V;omega
  exact abQ
def RsI.one(h:RsI c n N ml x)(y:cK c n N ml){i:Nat}(hi:i<n)(H:j<n)(h1:(sv x.st.T i).pc=10)(I:(sv x.st.T j).pc=10):i=j:=h.m.one y hi H ahB ahB
def JG{p t:Sp}(h:iy p t)(hw:gN p):t.pc=10:=by unfold iy at h;unfold gN at hw;omega
def mr{U:List Sp}{i:Nat}(h:i<U.length)(hi:i<n)(p:Sp)(a:Nat):gX c n (U.set i p) a+(if c.node i=a/\fI (sv U i)=true then 1 else 0)=gX c n U a+(if c.node i=a/\fI p=true then 1 else 0):=by unfold gX;have:=jG (P:=λj=>decide (c.node j=a)&&fI (sv U j)) (Q:=λj=>decide (c.node j=a)&&fI (sv (U.set i p) j)) (i:=i) (λj H=>by rw[svS h,if_neg H]) n hi;simp only[Bool.and_eq_true,decide_eq_true_eq]at this;rw[svS h,if_pos rfl]at this;exact this
def RsI.upd(h:RsI c n N ml x){i:Nat}(hi:i<n){st':Co}{d':Dr}(hm:CoM c n N ml st')(hT:∀j,j≠i->sv st'.T j=sv x.st.T j)(hk:iy p' (sv st'.T i))(hg:∀a,a<N->ldW st'.s.W (gaA a)=ldW st'.s.W (gaW a)+(gX c n (x.U.set i p') a:Int))(Nb:∀j,j<n->j≠i->gN (sv x.U j)->ldW st'.s.W (nuFl N)≠0)(Uh:gN p'->ldW st'.s.W (nuFl N)≠0)(hH:∀a,a<N->ldW x.st.s.W (gaW a)<=ldW st'.s.W (gaW a))(MC:dF p'->dF (sv x.U i)\/∀j,j<n->j≠i->¬gN (sv x.U j))(hd:∀j,j<n->j≠i->(sv x.U j).a=0->(sv x.U j).pc=9->d'=x.d)(od:p'.a=0->p'.pc=9->Ag c n N d' st'.s.W (x.U.set i p'))(oh:p'.a=0->p'.pc=10->∀j,j<n->j≠i->¬dF (sv x.U j)):RsI c n N ml ⟨st',d',x.U.set i p'⟩:=by
  refine akj ?_;intro hl;have hs:=svS hl p';refine⟨hm,by rw[List.length_set];exact h.lU,λj V=>?_,hg,λj V hw=>?_,λj V h0 h9=>?_,λj V h0 h10=>?_⟩
  . show iy (sv (x.U.set i p') j) (sv st'.T j);rw[hs];split;. rename_i e;rw[e];exact hk
    . rename_i e;rw[hT j e];exact h.k j V
  . have Ma:gN (sv (x.U.set i p') j):=hw;rw[hs]at Ma;split at Ma;. exact Uh Ma
    . rename_i e;exact Nb j V e Ma
  . have H:(sv (x.U.set i p') j).a=0:=h0;have O:(sv (x.U.set i p') j).pc=9:=h9;rw[hs]at H O;by_cases e:j=i;. rw[if_pos e]at H O;exact od H O
    . rw[if_neg e]at H O;obtain⟨q1,q2,q3⟩:=h.dr j V H O;show Ag c n N d' st'.s.W (x.U.set i p');rw[hd j V e H O];refine⟨q1,λhq=>Int.le_trans (q2 hq) (hH _ q1.2.2.1),λk hk I=>?_⟩;rw[hs]at I;split at I
      . rename_i e2;rcases MC I with h1|h1
        . rw[e2];exact q3 i hi h1
        . exact absurd ⟨H,.inr (.inl O)⟩ (h1 j V e)
      . exact q3 k hk I
  . have H:(sv (x.U.set i p') j).a=0:=h0;have O:(sv (x.U.set i p') j).pc=10:=h10;rw[hs]at H O;intro k hk I;have Y:dF (sv (x.U.set i p') k):=I;rw[hs]at Y;by_cases e:j=i
    . rw[if_pos e]at H O;split at Y;. unfold dF at Y;omega
      . rename_i e2;exact oh H O k hk e2 Y
    . rw[if_neg e]at H O;split at Y
      . rcases MC Y with h1|h1
        . exact h.hd j V H O i hi h1
        . exact h1 j V e ⟨H,.inr (.inr (.inl O))⟩
      . exact h.hd j V H O k hk Y
def rq(h:RsI c n N ml x)(y:cK c n N ml)(l:NuL c N x.st.s.W)(hz:1<=z/\z<=nuFl N)(v:Int)(e:s'.W=stW x.st.s.W z v):(∀q,ldW s'.W q=if q=z then v else ldW x.st.s.W q)/\CoM c n N ml (onA x.st s'):=by exact abR
def nD(h:RsI c n N ml x)(y:cK c n N ml)(e:s'.W=x.st.s.W):CoM c n N ml (onA x.st s'):=
 h.m.low y (by rw[e]) (λq _=>by rw[e]) (h.m.v.ars s')
def DC(h:RsI c n N ml x){i:Nat}(hi:i<n)(hb:fI p'=fI (sv x.U i))(a:Nat):gX c n (x.U.set i p') a=gX c n x.U a:=by have:=mr (c:=c) (n:=n) (show i<x.U.length by rw[h.lU];exact hi) hi p' a;rw[hb]at this;omega
def dJ(h:RsI c n N ml x){i:Nat}(hi:i<n)(hb:fI p'=fI (sv x.U i))(hw:∀q,q<nuFl N->ldW W' q=ldW x.st.s.W q):∀a,a<N->ldW W' (gaA a)=ldW W' (gaW a)+(gX c n (x.U.set i p') a:Int):=λa H=>by
 rw[hw _ (eY H).2,hw _ (bH H).2,DC h hi hb a];exact h.g a H
def Ie(h:RsI c n N ml x)(hn:∀j,j<n->c.node j<N){i:Nat}(hi:i<n)(h0:fI (sv x.U i)=false)(h1:fI p'=true)(hw:∀q,ldW W' q=if q=gaA (c.node i)then ldW x.st.s.W (gaA (c.node i))+1 else ldW x.st.s.W q):∀a,a<N->ldW W' (gaA a)=ldW W' (gaW a)+(gX c n (x.U.set i p') a:Int):=λa ha=>by
 have h2:=mr (c:=c) (n:=n) (show i<x.U.length by rw[h.lU];exact hi) hi p' a
 exact abS
def F7(h:RsI c n N ml x)(hn:∀j,j<n->c.node j<N){i:Nat}(hi:i<n)(h0:fI (sv x.U i)=true)(h1:fI p'=false)(hw:∀q,ldW W' q=if q=gaW (c.node i)then ldW x.st.s.W (gaW (c.node i))+1 else ldW x.st.s.W q):∀a,a<N->ldW W' (gaA a)=ldW W' (gaW a)+(gX c n (x.U.set i p') a:Int):=λa ha=>by
 have h2:=mr (c:=c) (n:=n) (show i<x.U.length by rw[h.lU];exact hi) hi p' a
 exact abT
end
end
end Go.Proofs.YtglokdbiggbkjaaGreat
