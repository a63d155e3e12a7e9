/- Joined texts. -/
import Derived.Test.YtglokdbiggbkjaaGreatMgWorldTrace0
import Derived.Test.YtglokdbiggbkjaaGreatMgWorldTrace21
import Derived.Test.YtglokdbiggbkjaaGreatMgWorldTrace22
import Derived.Test.YtglokdbiggbkjaaGreatMgWorldTrace23
set_option linter.unusedVariables false
set_option linter.unusedSimpArgs false
set_option linter.defProp false
set_option maxRecDepth 100000
set_option maxHeartbeats 16000000
open Go.Proofs.Tryz
namespace Go.Proofs.YtglokdbiggbkjaaGreat
open Go.IntKind(i64)
open Go.Value(int bool slice agg tuple pointer)
open Go.Ending(returned)
open Go.Obj(cells)
variable{n N j:Nat}{ml:Nat->Nat}{P T:List Int}{B:Int}
section
open Go
variable{U:List Sp}{p':Sp}{s':Ar}{v:Int}{W':List Int}
def iH(c:CoC)(N:Nat)(x:Nu)(i:Nat)(p:Sp):Co×Dr×Int:=
 if p.a=1 then
  if p.pc=1 then(onA x.st (af x.st.s (nuFl N)),x.d,if ldW x.st.s.W (nuFl N)=0 then 2 else 1)
  else if p.pc=2 then(onA x.st (addA x.st.s (gaA (c.node i)) 1),x.d,3)
  else if p.pc=3 then(onA x.st (af x.st.s (nuFl N)),x.d,if ldW x.st.s.W (nuFl N)=0 then 10 else 4)
  else if p.pc=4 then(onA x.st (addA x.st.s (gaW (c.node i)) 1),x.d,1)
  else(onA x.st (addA x.st.s (gaW (c.node i)) 1),x.d,0)
 else if p.pc=5 then(bG c (onA x.st (addA x.st.s (nuFl N) 1)) i,x.d,7)
 else if p.pc=7 then(ak c x.st i,if bB (sv x.st.T i) (sv (ak c x.st i).T i)then dV x.d N false else x.d,if bB (sv x.st.T i) (sv (ak c x.st i).T i)then 9 else 7)
 else if p.pc=9 then(onA x.st (aj x.st.s x.d).1,(aj x.st.s x.d).2.1,if (aj x.st.s x.d).2.2=true then 10 else 9)
 else if p.pc=12 then(aA (onA x.st (addA x.st.s (nuFl N) (-1))) i,x.d,13)
 else(ak c x.st i,x.d,if bB (sv x.st.T i) (sv (ak c x.st i).T i)then 0 else 13)
def bo(c:CoC)(N:Nat)(x:Nu)(i:Nat):Nu:=
 if (sv x.U i).pc=0\/(sv x.U i).pc=10 then x
 else⟨(iH c N x i (sv x.U i)).1,(iH c N x i (sv x.U i)).2.1,x.U.set i {(sv x.U i)with pc:=(iH c N x i (sv x.U i)).2.2}⟩
def ff(x:Nu)(i:Nat)(read:Bool):Nu:=
 if (sv x.U i).pc=0 then {x with U:=x.U.set i (if read then⟨1,1,0,0⟩else⟨5,0,0,0⟩)} else x
def fF(p:Sp):Bool:=decide (p.a=1/\(p.pc=3\/p.pc=4\/p.pc=10\/p.pc=11))
def dC(p:Sp):Prop:=p.a=1/\(p.pc=10\/p.pc=11)
def E4(p:Sp):Prop:=p.a=0/\(p.pc=9\/p.pc=10\/p.pc=12)
def wrC(p:Sp):Bool:=decide (p.a=0/\(p.pc=7\/p.pc=9\/p.pc=10\/p.pc=12))
def ia(p t:Sp):Prop:=
 (p.pc=0/\t.pc=0)\/(p.a=1/\(p.pc=1\/p.pc=2\/p.pc=3\/p.pc=4\/p.pc=10\/p.pc=11)/\t.pc=0)\/(p.a=0/\p.pc=5/\t.pc=0)\/
  (p.a=0/\p.pc=7/\0<t.pc/\t.pc<10)\/(p.a=0/\(p.pc=9\/p.pc=10\/p.pc=12)/\t.pc=10)\/(p.a=0/\p.pc=13/\10<t.pc)
def gZ(c:CoC)(n:Nat)(U:List Sp)(a:Nat):Nat:=jp n (λj=>decide (c.node j=a)&&fF (sv U j))
def my(n:Nat)(U:List Sp):Nat:=jp n (λj=>wrC (sv U j))
def Aa(c:CoC)(n N:Nat)(d:Dr)(W:List Int)(U:List Sp):Prop:=
 (d.busy=true/\d.once=false/\d.at_<N/\d.lim=N)/\(d.second=true->d.o<=ldW W (gaW d.at_))/\∀j,j<n->dC (sv U j)->d.at_<=c.node j
structure WsI(c:CoC)(n N:Nat)(ml:Nat->Nat)(x:Nu):Prop where
 m:CoM c n N ml x.st
 lU:x.U.length=n
 k:∀i,i<n->ia (sv x.U i) (sv x.st.T i)
 g:∀a,a<N->ldW x.st.s.W (gaA a)=ldW x.st.s.W (gaW a)+(gZ c n x.U a:Int)
 fl:ldW x.st.s.W (nuFl N)=(my n x.U:Int)
 dr:∀i,i<n->(sv x.U i).a=0->(sv x.U i).pc=9->Aa c n N x.d x.st.s.W x.U
 hd:∀i,i<n->(sv x.U i).a=0->(sv x.U i).pc=10->∀j,j<n->¬dC (sv x.U j)
section
variable{c:CoC}{x x':Nu}
def WsI.safe(h:WsI c n N ml x)(y:cO c n N ml){i:Nat}(hi:i<n)(h1:(sv x.U i).pc=10)(H:(sv x.U i).a=0)(hj:j<n)(I:(sv x.U j).pc=10):j=i/\(sv x.U j).a=0:=by
 have ki:=h.k i hi;have V:=h.k j hj;by_cases O:(sv x.U j).a=1;.exact absurd ⟨O,.inl I⟩ (h.hd i hi H h1 j hj)
 .have t1:(sv x.st.T i).pc=10:=by unfold ia at ki;omega
  have t2:(sv x.st.T j).pc=10/\(sv x.U j).a=0:=by unfold ia at V;omega
  exact abN
def WsI.one(h:WsI c n N ml x)(y:cO c n N ml){i:Nat}(hi:i<n)(H:j<n)(h1:(sv x.st.T i).pc=10)(I:(sv x.st.T j).pc=10):i=j:=h.m.one y hi H ahy ahy
def Fr{p t:Sp}(h:ia p t)(hw:E4 p):t.pc=10:=by unfold ia at h;unfold E4 at hw;omega
def mA{i:Nat}(h:i<U.length)(hi:i<n)(p:Sp)(a:Nat):gZ c n (U.set i p) a+(if c.node i=a/\fF (sv U i)=true then 1 else 0)=gZ c n U a+(if c.node i=a/\fF p=true then 1 else 0):=by unfold gZ;have:=jJ (P:=λj=>decide (c.node j=a)&&fF (sv U j)) (Q:=λj=>decide (c.node j=a)&&fF (sv (U.set i p) j)) (i:=i) (λj H=>by rw[svS h,if_neg H]) n hi;simp only[Bool.and_eq_true,decide_eq_true_eq]at this;rw[svS h,if_pos rfl]at this;exact this
def WsI.upd(h:WsI c n N ml x){i:Nat}(hi:i<n){st':Co}{d':Dr}(hm:CoM c n N ml st')(hT:∀j,j≠i->sv st'.T j=sv x.st.T j)(hk:ia p' (sv st'.T i))(hg:∀a,a<N->ldW st'.s.W (gaA a)=ldW st'.s.W (gaW a)+(gZ c n (x.U.set i p') a:Int))(Na:ldW st'.s.W (nuFl N)=(my n (x.U.set i p'):Int))(hH:∀a,a<N->ldW x.st.s.W (gaW a)<=ldW st'.s.W (gaW a))(MC:dC p'->dC (sv x.U i)\/∀j,j<n->j≠i->¬E4 (sv x.U j))(hd:∀j,j<n->j≠i->(sv x.U j).a=0->(sv x.U j).pc=9->d'=x.d)(od:p'.a=0->p'.pc=9->Aa c n N d' st'.s.W (x.U.set i p'))(oh:p'.a=0->p'.pc=10->∀j,j<n->j≠i->¬dC (sv x.U j)):WsI c n N ml ⟨st',d',x.U.set i p'⟩:=by
  refine akk ?_;intro hl;have hs:=svS hl p';refine⟨hm,by rw[List.length_set];exact h.lU,λj O=>?_,hg,Na,λj O h0 h9=>?_,λj O h0 h10=>?_⟩
  . show ia (sv (x.U.set i p') j) (sv st'.T j);rw[hs];split;. rename_i e;rw[e];exact hk
    . rename_i e;rw[hT j e];exact h.k j O
  . have H:(sv (x.U.set i p') j).a=0:=h0;have I:(sv (x.U.set i p') j).pc=9:=h9;rw[hs]at H I;by_cases e:j=i;. rw[if_pos e]at H I;exact od H I
    . rw[if_neg e]at H I;obtain⟨q1,q2,q3⟩:=h.dr j O H I;show Aa c n N d' st'.s.W (x.U.set i p');rw[hd j O e H I];refine⟨q1,λhq=>Int.le_trans (q2 hq) (hH _ q1.2.2.1),λk hk V=>?_⟩;rw[hs]at V;split at V
      . rename_i e2;rcases MC V with h1|h1
        . rw[e2];exact q3 i hi h1
        . exact absurd ⟨H,.inl I⟩ (h1 j O e)
      . exact q3 k hk V
  . have H:(sv (x.U.set i p') j).a=0:=h0;have I:(sv (x.U.set i p') j).pc=10:=h10;rw[hs]at H I;intro k hk V;have Y:dC (sv (x.U.set i p') k):=V;rw[hs]at Y;by_cases e:j=i
    . rw[if_pos e]at H I;split at Y;. unfold dC at Y;omega
      . rename_i e2;exact oh H I k hk e2 Y
    . rw[if_neg e]at H I;split at Y
      . rcases MC Y with h1|h1
        . exact h.hd j O H I i hi h1
        . exact h1 j O e ⟨H,.inr (.inl I)⟩
      . exact h.hd j O H I k hk Y
def rA(h:WsI c n N ml x)(y:cO c n N ml)(l:NuL c N x.st.s.W){z:Int}(hz:1<=z/\z<=nuFl N)(v:Int)(e:s'.W=stW x.st.s.W z v):(∀q,ldW s'.W q=if q=z then v else ldW x.st.s.W q)/\CoM c n N ml (onA x.st s'):=by exact abO
def lE(h:WsI c n N ml x)(y:cO c n N ml)(e:s'.W=x.st.s.W):CoM c n N ml (onA x.st s'):=
 h.m.low y (by rw[e]) (λq _=>by rw[e]) (h.m.v.ars s')
def oy{i:Nat}(h:i<U.length)(hi:i<n)(p:Sp):my n (U.set i p)+(if wrC (sv U i)=true then 1 else 0)=my n U+(if wrC p=true then 1 else 0):=by unfold my;have:=jJ (P:=λj=>wrC (sv U j)) (Q:=λj=>wrC (sv (U.set i p) j)) (i:=i) (λj H=>by rw[svS h,if_neg H]) n hi;rw[svS h,if_pos rfl]at this;exact this
def eG(h:WsI c n N ml x){i:Nat}(hi:i<n)(I:wrC p'=wrC (sv x.U i))(O:v=ldW x.st.s.W (nuFl N)):v=(my n (x.U.set i p'):Int):=by have:=oy (n:=n) (show i<x.U.length by rw[h.lU];exact hi) hi p';rw[I]at this;rw[O,h.fl];omega
def JT(h:WsI c n N ml x){i:Nat}(hi:i<n)(h0:wrC (sv x.U i)=false)(h1:wrC p'=true)(O:v=ldW x.st.s.W (nuFl N)+1):v=(my n (x.U.set i p'):Int):=by exact ack
def FZ(h:WsI c n N ml x){i:Nat}(hi:i<n)(h0:wrC (sv x.U i)=true)(h1:wrC p'=false)(O:v=ldW x.st.s.W (nuFl N)+ -1):v=(my n (x.U.set i p'):Int):=by exact ack
def yG{P:Nat->Bool}{i:Nat}(h:jp n P=0)(hi:i<n):P i=false:=by
 cases H:P i with
 |false=>rfl
 |true=>have:=jK hi H;omega
def WsI.none(h:WsI c n N ml x)(H:ldW x.st.s.W (nuFl N)=0)(I:j<n):¬((sv x.U j).a=0/\((sv x.U j).pc=7\/(sv x.U j).pc=9\/(sv x.U j).pc=10\/(sv x.U j).pc=12)):=by have h1:=h.fl;rw[H]at h1;have:=yG (P:=λj=>wrC (sv x.U j)) (n:=n) (show jp n _=0 by have:(my n x.U:Int)=0:=h1.symm;unfold my at this;omega) I;exact of_decide_eq_false this
def Dz(h:WsI c n N ml x){i:Nat}(hi:i<n)(I:fF p'=fF (sv x.U i))(a:Nat):gZ c n (x.U.set i p') a=gZ c n x.U a:=by have:=mA (c:=c) (n:=n) (show i<x.U.length by rw[h.lU];exact hi) hi p' a;rw[I]at this;omega
def dL(h:WsI c n N ml x){i:Nat}(hi:i<n)(I:fF p'=fF (sv x.U i))(hw:∀q,q<nuFl N->ldW W' q=ldW x.st.s.W q):∀a,a<N->ldW W' (gaA a)=ldW W' (gaW a)+(gZ c n (x.U.set i p') a:Int):=λa H=>by
 rw[hw _ (eU H).2,hw _ (bK H).2,Dz h hi I a];exact h.g a H
def Ia(h:WsI c n N ml x)(hn:∀j,j<n->c.node j<N){i:Nat}(hi:i<n)(h0:fF (sv x.U i)=false)(h1:fF p'=true)(hw:∀q,ldW W' q=if q=gaA (c.node i)then ldW x.st.s.W (gaA (c.node i))+1 else ldW x.st.s.W q):∀a,a<N->ldW W' (gaA a)=ldW W' (gaW a)+(gZ c n (x.U.set i p') a:Int):=λa ha=>by
 have h2:=mA (c:=c) (n:=n) (show i<x.U.length by rw[h.lU];exact hi) hi p' a
 exact abP
def Bz(h:WsI c n N ml x)(hn:∀j,j<n->c.node j<N){i:Nat}(hi:i<n)(h0:fF (sv x.U i)=true)(h1:fF p'=false)(hw:∀q,ldW W' q=if q=gaW (c.node i)then ldW x.st.s.W (gaW (c.node i))+1 else ldW x.st.s.W q):∀a,a<N->ldW W' (gaA a)=ldW W' (gaW a)+(gZ c n (x.U.set i p') a:Int):=λa ha=>by
 have h2:=mA (c:=c) (n:=n) (show i<x.U.length by rw[h.lU];exact hi) hi p' a
 exact abQ
end
end
section
open Go.RowKit
section
variable{B BC:Nat->Prop}{w w' w0:World}{a g:Nat}{X:SmX}{c:CoC}{st st':Co}{d d':Dr}{U:List Sp}{s':Ar}{BB:Int}
def FD(h:aw 337 B BC w a g X c P T st d U)(n:Nat)(hn:n<T.length)(r:Bool):E 396 #[↑X.l,J n,.bool r] w (av 337 B BC w a g X c P T U n (ff ⟨st,d,U⟩ n r)):=by
 have mP:okI U (n:Int):=⟨by omega,by rw[h.lU];omega⟩;have HH:=qh (BI h n true (decide_eq_true mP).symm);have hp:=h.thr hn;have H:=qh h;obtain⟨x',O⟩:=LE (ff ⟨st,d,U⟩ n r);rw[<-O];unfold ff at O;obtain⟨p,i'⟩:=LE (sv U n);simp only at O;rw[<-i']at hp O;have c6:=h.cs.2.2.2.2.2.2;refine aiX ?_;intro a0 a1 a2 a3;have f1:∀j,w.frozen? ⟨X.q,j,none⟩=false:=λj=>h.sp.free j;have t2:¬(n:Int)<0:=by omega
 have SZ:X.q≠X.l:=h.o3.1;have HX:=qh O;have HP:=qh hp;clear h hp i' mP O;by_cases I:p.pc=0
 .have y1:(p.pc !=0)=false:=by simpa using I
  have HP0:=qh I;clear I;have V:=qh (H.o.put4 hn ⟨5,0,0,0⟩);have e6:=V.o.cs.2.2.2.2.2.2;cases r;.go_enter func396,ntmps396;go_wp2_with fail;refine LT HH.o ?_;go_wp2;go_ret;rw[HX.o,if_pos HP0.o];first|exact av.stay (V.o) (fu _ _ _ _ _ _) rfl|exact av.put HP.o (V.o) (fu _ _ _ _ _ _) rfl ahI
  .go_enter func396,ntmps396;go_wp2_with fail;refine LT HH.o ?_;go_wp2;go_ret;rw[HX.o,if_pos HP0.o];have Y:=V.o.put4 hn ⟨1,1,0,0⟩;rw[List.set_set]at Y;first|exact av.stay (Y) ((fu _ _ _ _ _ _).trans (fu _ _ _ _ _ _)) rfl|exact av.put HP.o (Y) ((fu _ _ _ _ _ _).trans (fu _ _ _ _ _ _)) rfl ahI
 .have y1:(p.pc !=0)=true:=by simpa using I
  have HP0:=qh I;clear I;go_enter func396,ntmps396;exact abT
def BW(h:aw 337 B BC w a g X c P T st d U)(n:Nat)(hn:n<T.length)(ha:(sv U n).pc=10->(sv U n).a=0\/(sv U n).a=1):E 397 #[↑X.l,J n] w (av 337 B BC w a g X c P T U n (aF ⟨st,d,U⟩ n)):=by
 have KF:=aP;have H':=pG h n;have hp:=h.thr hn;have hg:getS U (n:Int)=sv U n:=by exact abU
 rw[hg]at H';refine aka ?_;intro H x' p i' mT;rw[<-i']at hp mT H' ha;have HS:=qh H';have HP:=qh hp;refine aj3 ?_;intro t2 MW;clear h hp i' hg H';obtain⟨pc,u,b,z⟩:=p;simp only at ha mT;unfold aC at HS;by_cases KK:pc=10
 .subst KK;have Lz:=ha rfl;rw[if_pos rfl]at mT;clear ha;rcases Lz with rfl|rfl
  .have HX:Kq (x'=⟨st,d,U.set n ⟨12,0,b,z⟩⟩):=qh mT;have x1:IntKind.i64.wrap 12=12:=IntWalk.i64_in _ ahy;clear mT;go_enter func397,ntmps397;go_wp2_with fail;refine ai9 ?_;intro w1 b1 K1 T1;go_upto_region 2 with fail;obtain⟨Y,Ls⟩:=LE w1.heap.size;obtain⟨V,KU⟩:=LE (w1.alloc (cells #[J 10,J 0,J b,J z] 113));rw[<-KU,<-Ls];have O:=qh (show aw 337 B BC V a g X c P T st d U/\aa (SmS a g X) w V/\Blk V Y 113 #[J 10,J 0,J b,J z]/\Y≠X.q from⟨by rw[KU];exact K1.o.below ((Below.refl _ _).alloc (Nat.le_refl _) _),by rw[KU];exact T1.o.alloc _,by rw[KU,Ls];exact Blk.new _ _ _,by have q1:=K1.o.sp.lt;omega⟩);clear KU Ls K1 T1;have HC:=qh (λW (U':List Sp) (k:aw 337 B BC W a g X c P T st d U') (I:Blk W Y 113 #[J 10,J 0,J b,J z])=>And.intro k.cs.2.2.2.2.2.2 (show W.cell? ⟨Y,1,none⟩=some (J 0)from I.cell 1));have K2:=qh (O.o.1.below (Below.refl _ _).drew);have B2:=qh ((aa.refl [] V).drew.blk O.o.2.2.1 ahz);have K3:=qh ((O.o.1.put0 HP.o (p':=(⟨12,0,b,z⟩:Sp)) (u:= J 12) rfl).below (Below.refl _ _).drew);have T3:=qh ((O.o.2.1.trans (ee (n*4) (J 12))).drew);have B3:=qh (((aW _ _ _:aa [X.q] V (V.setCell ⟨X.q,n*4,none⟩ (J 12))).drew).blk O.o.2.2.1 (by simp;exact O.o.2.2.2));have v0:V.cell? Y=some (J 10):=O.o.2.2.1.cell 0;have e0:=aaa (K2.o.sp.cell HP.o 0 _ rfl);have z0:=K2.o.sp.free (n*4);go_wp2_with fail
   go_region_held3 (λW=>Z W X.l 6 (slice (some ⟨X.q,0,none⟩) T.length T.length)/\Z W Y 1 (J 0))
    (first|with_reducible exact HC.o _ _ K2.o B2.o|with_reducible exact HC.o _ _ K3.o B3.o)
    (first|fail)
   exact abV
  .have HX:Kq (x'=⟨st,d,U.set n ⟨11,1,b,z⟩⟩):=qh mT;have x1:IntKind.i64.wrap 11=11:=IntWalk.i64_in _ ahy;clear mT;go_enter func397,ntmps397;go_wp2_with fail;refine ai9 ?_;intro w1 b1 K1 T1;go_upto_region 2 with fail;obtain⟨Y,Ls⟩:=LE w1.heap.size;obtain⟨V,KU⟩:=LE (w1.alloc (cells #[J 10,J 1,J b,J z] 113));rw[<-KU,<-Ls];have O:=qh (show aw 337 B BC V a g X c P T st d U/\aa (SmS a g X) w V/\Blk V Y 113 #[J 10,J 1,J b,J z]/\Y≠X.q from⟨by rw[KU];exact K1.o.below ((Below.refl _ _).alloc (Nat.le_refl _) _),by rw[KU];exact T1.o.alloc _,by rw[KU,Ls];exact Blk.new _ _ _,by have q1:=K1.o.sp.lt;omega⟩);clear KU Ls K1 T1;have HC:=qh (λW (U':List Sp) (k:aw 337 B BC W a g X c P T st d U') (I:Blk W Y 113 #[J 10,J 1,J b,J z])=>And.intro k.cs.2.2.2.2.2.2 (show W.cell? ⟨Y,1,none⟩=some (J 1)from I.cell 1));have K2:=qh (O.o.1.below (Below.refl _ _).drew);have B2:=qh ((aa.refl [] V).drew.blk O.o.2.2.1 ahz);have K3:=qh ((O.o.1.put0 HP.o (p':=(⟨11,1,b,z⟩:Sp)) (u:= J 11) rfl).below (Below.refl _ _).drew);have T3:=qh ((O.o.2.1.trans (ee (n*4) (J 11))).drew);have B3:=qh (((aW _ _ _:aa [X.q] V (V.setCell ⟨X.q,n*4,none⟩ (J 11))).drew).blk O.o.2.2.1 (by simp;exact O.o.2.2.2));have v0:V.cell? Y=some (J 10):=O.o.2.2.1.cell 0;have e0:=aaa (K2.o.sp.cell HP.o 0 _ rfl);have z0:=K2.o.sp.free (n*4);go_wp2_with fail
   go_region_held3 (λW=>Z W X.l 6 (slice (some ⟨X.q,0,none⟩) T.length T.length)/\Z W Y 1 (J 1))
    (first|with_reducible exact HC.o _ _ K2.o B2.o|with_reducible exact HC.o _ _ K3.o B3.o)
    (first|fail)
   exact abV
 .have y1:(pc !=10)=true:=by simpa using KK
  have HX:=qh mT;have HP0:=qh KK;clear KK ha mT;go_enter func397,ntmps397;exact aca
end
end
section
open Go
variable{p:Sp}
section
variable{c:CoC}{x:Nu}
def rX(h:¬(p.a=1/\(p.pc=3\/p.pc=4\/p.pc=10\/p.pc=11))):fF p=false:=decide_eq_false h
def EG(h:p.a=1/\(p.pc=3\/p.pc=4\/p.pc=10\/p.pc=11)):fF p=true:=decide_eq_true h
def JH(h:¬(p.a=0/\(p.pc=7\/p.pc=9\/p.pc=10\/p.pc=12))):wrC p=false:=decide_eq_false h
def WsI.ask(h:WsI c n N ml x){i:Nat}(hi:i<n)(r:Bool):WsI c n N ml (ff x i r):=by
 unfold ff;split
 .rename_i Y;have O:=h.k i hi;have H:(sv x.st.T i).pc=0:=by unfold ia at O;omega
  have I:fF (sv x.U i)=false:=rX ahy;have hc:wrC (sv x.U i)=false:=JH ahy;cases r;.exact h.upd (p':=⟨5,0,0,0⟩) hi h.m (λ_ _=>rfl) (.inr (.inr (.inl ⟨rfl,rfl,H⟩))) (dL h hi (by rw[I];rfl) (λ_ _=>rfl)) (eG h hi (by rw[hc];rfl) rfl) (λ_ _=>Int.le_refl _) (λV=>by unfold dC at V;simp at V) (λ_ _ _ _ _=>rfl) (λ_ e=>by simp at e) (λ_ e=>by simp at e)
  .exact h.upd (p':=⟨1,1,0,0⟩) hi h.m (λ_ _=>rfl) (.inr (.inl ⟨rfl,.inl rfl,H⟩)) (dL h hi (by rw[I];rfl) (λ_ _=>rfl)) (eG h hi (by rw[hc];rfl) rfl) (λ_ _=>Int.le_refl _) (λV=>by unfold dC at V;simp at V) (λ_ _ _ _ _=>rfl) (λe=>by simp at e) (λe=>by simp at e)
 .exact h
def WsI.leave(h:WsI c n N ml x){i:Nat}(hi:i<n):WsI c n N ml (aF x i):=by
 unfold aF;split
 .rename_i h10;have O:=h.k i hi;obtain⟨p,hp⟩:=LE (sv x.U i);rw[<-hp]at O h10 ⊢;have I:(p.a=1/\(sv x.st.T i).pc=0)\/(p.a=0/\(sv x.st.T i).pc=10):=by unfold ia at O;omega
  obtain⟨pc,u,b,z⟩:=p;simp only at h10 I;subst h10;rcases I with⟨rfl,H⟩|⟨rfl,H⟩
  .exact h.upd (p':=⟨11,1,b,z⟩) hi h.m (λ_ _=>rfl) (.inr (.inl ⟨rfl,.inr (.inr (.inr (.inr (.inr rfl)))),H⟩)) (dL h hi ahE (λ_ _=>rfl)) (eG h hi ahE rfl) (λ_ _=>Int.le_refl _) (λV=> .inl (by rw[<-hp];exact⟨rfl,.inl rfl⟩)) (λ_ _ _ _ _=>rfl) (λe=>by simp at e) (λe=>by simp at e)
  .exact h.upd (p':=⟨12,0,b,z⟩) hi h.m (λ_ _=>rfl) (.inr (.inr (.inr (.inr (.inl ⟨rfl,.inr (.inr rfl),H⟩))))) (dL h hi ahE (λ_ _=>rfl)) (eG h hi ahE rfl) (λ_ _=>Int.le_refl _) (λV=>by unfold dC at V;simp at V) (λ_ _ _ _ _=>rfl) (λ_ e=>by simp at e) (λ_ e=>by simp at e)
 .exact h
def kM{P Q:Prop}(q:Q)(h:Kq Q->P:=by
    intro q_
    have hn:=(y.nd i hi).1
    have Kw:∀j,j<n->c.node j<N:=λj hj=>(y.nd j hj).1
    have hk:=h.k i hi
    have Lg:=h.dr i hi
    have oth:(sv x.st.T i).pc=10->∀j,j<n->j≠i->¬E4 (sv x.U j):=λht j hj e hw=>e (h.one y hj hi (Fr (h.k j hj) hw) ht)
    refine aj4 ?_
    intro Lo bA bW
    have bF:=hB.w.ld ahy (nuFl N)
    refine ajf ?_
    intro wA wW
    have lA:=rA h y l (z:=gaA (c.node i)) ⟨(eU hn).1,by have:=(eU hn).2;omega⟩ (ldW x.st.s.W (gaA (c.node i))+1) (s':=addA x.st.s (gaA (c.node i)) 1) (by rw[d7,wA])
    have lW:=rA h y l (z:=gaW (c.node i)) ⟨(bK hn).1,by have:=(bK hn).2;omega⟩ (ldW x.st.s.W (gaW (c.node i))+1) (s':=addA x.st.s (gaW (c.node i)) 1) (by rw[d7,wW])
    have lF:∀v:Int,(v=1\/v= -1)->_:=λv O=>rA h y l (z:=nuFl N) ⟨by unfold nuFl;omega,Int.le_refl _⟩ (ldW x.st.s.W (nuFl N)+v) (s':=addA x.st.s (nuFl N) v) (by rw[d7,IntWalk.i64_in _ ahy])
    refine ai0 ?_
    intro fA fW HA
    have HW:∀a,a<N->ldW x.st.s.W (gaW a)<=ldW (addA x.st.s (gaW (c.node i)) 1).W (gaW a):=λa _=>by
      exact abW
    have HF:∀v:Int,(v=1\/v= -1)->∀a,a<N->ldW x.st.s.W (gaW a)<=ldW (addA x.st.s (nuFl N) v).W (gaW a):=λv O a ha=>by rw[(lF v O).1,if_neg ahG];exact Int.le_refl _
    have SF:∀v:Int,(v=1\/v= -1)->∀q,q<nuFl N->ldW (addA x.st.s (nuFl N) v).W q=ldW x.st.s.W q:=λv O q hq=>by rw[(lF v O).1,if_neg ahy]
    have eL:(af x.st.s (nuFl N)).W=x.st.s.W:=aQ _ _
    have mS:=h.m.step y hB ahy ahy hi
    have lS:=h.m.stepLow y hB ahy ahy hi
    have Km:∀q,q<=nuFl N->ldW (ak c x.st i).s.W q=ldW x.st.s.W q:=λq hq=>lS q aiD
    have tS:∀j,j≠i->sv (ak c x.st i).T j=sv x.st.T j:=λj hj=>oC h.m.v hi hj
    have aS:=mC h.m.v hi
    unfold bo
    rw[<-hp]
    rw[<-hp]at hk Lg
    rw[if_neg ahz]
    revert hn Kw hk Lg oth Lo bA bW bF wA wW lA lW lF fA fW HA HW HF SF eL mS lS Km tS aS
    exact q_.o):P:=h ⟨q⟩
def WsI.s1(h:WsI c n N ml x)(y:cO c n N ml)(l:NuL c N x.st.s.W)(hB:CoB c B x.st)(I:40<=B)(Y:B<=1000000000000){i:Nat}(hi:i<n)(b z:Int)(hp:(⟨1,1,b,z⟩:Sp)=sv x.U i)(ht:(sv x.st.T i).pc=0):WsI c n N ml (bo c N x i):=by
 refine kM ?_;intro hn Kw hk Lg oth Lo bA bW bF wA wW lA lW lF fA fW HA HW HF SF eL mS lS Km tS aS;show WsI c n N ml ⟨onA x.st (af x.st.s (nuFl N)),x.d,x.U.set i ⟨if ldW x.st.s.W (nuFl N)=0 then 2 else 1,1,b,z⟩⟩;by_cases H:ldW x.st.s.W (nuFl N)=0;.rw[if_pos H];exact h.upd (p':=⟨2,1,b,z⟩) hi (lE h y eL) (λ_ _=>rfl) (.inr (.inl ⟨rfl,.inr (.inl rfl),ht⟩)) (dL h hi ahE (λq _=>by show ldW (af _ _).W q=_;rw[eL])) (eG h hi ahE aik) (λa _=>by show _<=ldW (af _ _).W _;rw[eL];exact Int.le_refl _) (λV=>by unfold dC at V;simp at V) (λ_ _ _ _ _=>rfl) (λe=>by simp at e) (λe=>by simp at e)
 .rw[if_neg H];exact h.upd (p':=⟨1,1,b,z⟩) hi (lE h y eL) (λ_ _=>rfl) (.inr (.inl ⟨rfl,.inl rfl,ht⟩)) (dL h hi ahL (λq _=>by show ldW (af _ _).W q=_;rw[eL])) (eG h hi ahL aik) (λa _=>by show _<=ldW (af _ _).W _;rw[eL];exact Int.le_refl _) (λV=>by unfold dC at V;simp at V) (λ_ _ _ _ _=>rfl) (λe=>by simp at e) (λe=>by simp at e)
def WsI.s3(h:WsI c n N ml x)(y:cO c n N ml)(l:NuL c N x.st.s.W)(hB:CoB c B x.st)(I:40<=B)(Y:B<=1000000000000){i:Nat}(hi:i<n)(b z:Int)(hp:(⟨3,1,b,z⟩:Sp)=sv x.U i)(ht:(sv x.st.T i).pc=0):WsI c n N ml (bo c N x i):=by
 refine kM ?_;intro hn Kw hk Lg oth Lo bA bW bF wA wW lA lW lF fA fW HA HW HF SF eL mS lS Km tS aS;show WsI c n N ml ⟨onA x.st (af x.st.s (nuFl N)),x.d,x.U.set i ⟨if ldW x.st.s.W (nuFl N)=0 then 10 else 4,1,b,z⟩⟩;by_cases H:ldW x.st.s.W (nuFl N)=0;.rw[if_pos H];exact h.upd (p':=⟨10,1,b,z⟩) hi (lE h y eL) (λ_ _=>rfl) (.inr (.inl ⟨rfl,.inr (.inr (.inr (.inr (.inl rfl)))),ht⟩)) (dL h hi ahE (λq _=>by show ldW (af _ _).W q=_;rw[eL])) (eG h hi ahE aik) (λa _=>by show _<=ldW (af _ _).W _;rw[eL];exact Int.le_refl _) (λ_=> .inr (λj hj _ hw=>h.none H hj ⟨hw.1,.inr hw.2⟩)) (λ_ _ _ _ _=>rfl) (λe=>by simp at e) (λe=>by simp at e)
 .rw[if_neg H];exact h.upd (p':=⟨4,1,b,z⟩) hi (lE h y eL) (λ_ _=>rfl) (.inr (.inl ⟨rfl,.inr (.inr (.inr (.inl rfl))),ht⟩)) (dL h hi ahE (λq _=>by show ldW (af _ _).W q=_;rw[eL])) (eG h hi ahE aik) (λa _=>by show _<=ldW (af _ _).W _;rw[eL];exact Int.le_refl _) (λV=>by unfold dC at V;simp at V) (λ_ _ _ _ _=>rfl) (λe=>by simp at e) (λe=>by simp at e)
def WsI.s2(h:WsI c n N ml x)(y:cO c n N ml)(l:NuL c N x.st.s.W)(hB:CoB c B x.st)(H:40<=B)(I:B<=1000000000000){i:Nat}(hi:i<n)(b z:Int)(hp:(⟨2,1,b,z⟩:Sp)=sv x.U i)(ht:(sv x.st.T i).pc=0):WsI c n N ml (bo c N x i):=by refine kM ?_;intro hn Kw hk Lg oth Lo bA bW bF wA wW lA lW lF fA fW HA HW HF SF eL mS lS Km tS aS;show WsI c n N ml ⟨onA x.st (addA x.st.s (gaA (c.node i)) 1),x.d,x.U.set i ⟨3,1,b,z⟩⟩;exact h.upd (p':=⟨3,1,b,z⟩) hi lA.2 (λ_ _=>rfl) (.inr (.inl ⟨rfl,.inr (.inr (.inl rfl)),ht⟩)) (Ia h Kw hi ahE rfl lA.1) (eG h hi ahE (fA)) HA (λV=>by unfold dC at V;simp at V) (λ_ _ _ _ _=>rfl) (λe=>by simp at e) (λe=>by simp at e)
def WsI.s4(h:WsI c n N ml x)(y:cO c n N ml)(l:NuL c N x.st.s.W)(hB:CoB c B x.st)(H:40<=B)(I:B<=1000000000000){i:Nat}(hi:i<n)(b z:Int)(hp:(⟨4,1,b,z⟩:Sp)=sv x.U i)(ht:(sv x.st.T i).pc=0):WsI c n N ml (bo c N x i):=by refine kM ?_;intro hn Kw hk Lg oth Lo bA bW bF wA wW lA lW lF fA fW HA HW HF SF eL mS lS Km tS aS;show WsI c n N ml ⟨onA x.st (addA x.st.s (gaW (c.node i)) 1),x.d,x.U.set i ⟨1,1,b,z⟩⟩;exact h.upd (p':=⟨1,1,b,z⟩) hi lW.2 (λ_ _=>rfl) (.inr (.inl ⟨rfl,.inl rfl,ht⟩)) (Bz h Kw hi ahE rfl lW.1) (eG h hi ahE (fW)) HW (λV=>by unfold dC at V;simp at V) (λ_ _ _ _ _=>rfl) (λe=>by simp at e) (λe=>by simp at e)
def WsI.s11(h:WsI c n N ml x)(y:cO c n N ml)(l:NuL c N x.st.s.W)(hB:CoB c B x.st)(H:40<=B)(I:B<=1000000000000){i:Nat}(hi:i<n)(b z:Int)(hp:(⟨11,1,b,z⟩:Sp)=sv x.U i)(ht:(sv x.st.T i).pc=0):WsI c n N ml (bo c N x i):=by refine kM ?_;intro hn Kw hk Lg oth Lo bA bW bF wA wW lA lW lF fA fW HA HW HF SF eL mS lS Km tS aS;show WsI c n N ml ⟨onA x.st (addA x.st.s (gaW (c.node i)) 1),x.d,x.U.set i ⟨0,1,b,z⟩⟩;exact h.upd (p':=⟨0,1,b,z⟩) hi lW.2 (λ_ _=>rfl) (.inl ⟨rfl,ht⟩) (Bz h Kw hi ahE rfl lW.1) (eG h hi ahE (fW)) HW (λV=>by unfold dC at V;simp at V) (λ_ _ _ _ _=>rfl) (λe=>by simp at e) (λe=>by simp at e)
def WsI.s5(h:WsI c n N ml x)(y:cO c n N ml)(l:NuL c N x.st.s.W)(hB:CoB c B x.st)(I:40<=B)(Y:B<=1000000000000){i:Nat}(hi:i<n)(b z:Int)(hp:(⟨5,0,b,z⟩:Sp)=sv x.U i)(ht:(sv x.st.T i).pc=0):WsI c n N ml (bo c N x i):=by
 refine kM ?_;intro hn Kw hk Lg oth Lo bA bW bF wA wW lA lW lF fA fW HA HW HF SF eL mS lS Km tS aS;show WsI c n N ml ⟨bG c (onA x.st (addA x.st.s (nuFl N) (1))) i,x.d,x.U.set i ⟨7,0,b,z⟩⟩;have hm:=(lF _ (show(1:Int)=1\/(1:Int)= -1 by omega)).2.ask y hi;have hs:=gF c (onA x.st (addA x.st.s (nuFl N) (1))) i;have H:=ir (c:=c) (st:=(onA x.st (addA x.st.s (nuFl N) (1)))) (j:=i) (lF _ (show(1:Int)=1\/(1:Int)= -1 by omega)).2.v hi;have Rb:(sv (bG c (onA x.st (addA x.st.s (nuFl N) (1))) i).T i).pc=1:=H.2 ht;refine h.upd (p':=⟨7,0,b,z⟩) hi hm (λj hj=>(ir (c:=c) (st:=(onA x.st (addA x.st.s (nuFl N) (1)))) (lF _ (show(1:Int)=1\/(1:Int)= -1 by omega)).2.v hi).1 hj) (.inr (.inr (.inr (.inl ⟨rfl,rfl,by omega,by omega⟩)))) ?_ ?_ (λa ha=>?_) (λV=>by unfold dC at V;simp at V) (λ_ _ _ _ _=>rfl) (λ_ e=>by simp at e) (λ_ e=>by simp at e);.show ∀a,a<N->ldW (bG c (onA x.st (addA x.st.s (nuFl N) (1))) i).s.W _=_;rw[hs];exact(dL h hi ahE (SF _ (show(1:Int)=1\/(1:Int)= -1 by omega)))
 .show ldW (bG c (onA x.st (addA x.st.s (nuFl N) (1))) i).s.W _=_;rw[hs];exact(JT h hi ahE rfl (by show ldW (addA _ _ _).W _=_;rw[(lF _ (show(1:Int)=1\/(1:Int)= -1 by omega)).1,if_pos rfl]))
 .show _<=ldW (bG c (onA x.st (addA x.st.s (nuFl N) (1))) i).s.W _;rw[hs];exact HF _ (show(1:Int)=1\/(1:Int)= -1 by omega) a ha
def WsI.s12(h:WsI c n N ml x)(y:cO c n N ml)(l:NuL c N x.st.s.W)(hB:CoB c B x.st)(I:40<=B)(Y:B<=1000000000000){i:Nat}(hi:i<n)(b z:Int)(hp:(⟨12,0,b,z⟩:Sp)=sv x.U i)(ht:(sv x.st.T i).pc=10):WsI c n N ml (bo c N x i):=by
 refine kM ?_;intro hn Kw hk Lg oth Lo bA bW bF wA wW lA lW lF fA fW HA HW HF SF eL mS lS Km tS aS;show WsI c n N ml ⟨aA (onA x.st (addA x.st.s (nuFl N) (-1))) i,x.d,x.U.set i ⟨13,0,b,z⟩⟩;have hm:=(lF _ (show(-1:Int)=1\/(-1:Int)= -1 by omega)).2.leave y hi;have hs:=fJ (onA x.st (addA x.st.s (nuFl N) (-1))) i;have H:=eY (st:=(onA x.st (addA x.st.s (nuFl N) (-1)))) (j:=i) (lF _ (show(-1:Int)=1\/(-1:Int)= -1 by omega)).2.v hi;have Rb:(sv (aA (onA x.st (addA x.st.s (nuFl N) (-1))) i).T i).pc=11:=H.2 ht;refine h.upd (p':=⟨13,0,b,z⟩) hi hm (λj hj=>(eY (st:=(onA x.st (addA x.st.s (nuFl N) (-1)))) (lF _ (show(-1:Int)=1\/(-1:Int)= -1 by omega)).2.v hi).1 hj) (.inr (.inr (.inr (.inr (.inr ⟨rfl,rfl,by omega⟩))))) ?_ ?_ (λa ha=>?_) (λV=>by unfold dC at V;simp at V) (λ_ _ _ _ _=>rfl) (λ_ e=>by simp at e) (λ_ e=>by simp at e);.show ∀a,a<N->ldW (aA (onA x.st (addA x.st.s (nuFl N) (-1))) i).s.W _=_;rw[hs];exact(dL h hi ahE (SF _ (show(-1:Int)=1\/(-1:Int)= -1 by omega)))
 .show ldW (aA (onA x.st (addA x.st.s (nuFl N) (-1))) i).s.W _=_;rw[hs];exact(FZ h hi ahE rfl (by show ldW (addA _ _ _).W _=_;rw[(lF _ (show(-1:Int)=1\/(-1:Int)= -1 by omega)).1,if_pos rfl]))
 .show _<=ldW (aA (onA x.st (addA x.st.s (nuFl N) (-1))) i).s.W _;rw[hs];exact HF _ (show(-1:Int)=1\/(-1:Int)= -1 by omega) a ha
def WsI.s7(h:WsI c n N ml x)(y:cO c n N ml)(l:NuL c N x.st.s.W)(hB:CoB c B x.st)(KD:40<=B)(KE:B<=1000000000000){i:Nat}(hi:i<n)(b z:Int)(hp:(⟨7,0,b,z⟩:Sp)=sv x.U i)(ht:0<(sv x.st.T i).pc/\(sv x.st.T i).pc<10):WsI c n N ml (bo c N x i):=by
 refine kM ?_;intro hn Kw hk Lg oth Lo bA bW bF wA wW lA lW lF fA fW HA HW HF SF eL mS lS Km tS aS;have a1:=aS.1 ht;show WsI c n N ml ⟨ak c x.st i,if bB (sv x.st.T i) (sv (ak c x.st i).T i)then dV x.d N false else x.d,x.U.set i ⟨if bB (sv x.st.T i) (sv (ak c x.st i).T i)then 9 else 7,0,b,z⟩⟩;rw[a1.2];by_cases H:(sv (ak c x.st i).T i).pc=10;.rw[decide_eq_true H];refine h.upd (p':=⟨9,0,b,z⟩) (d':=dV x.d N false) hi mS tS (.inr (.inr (.inr (.inr (.inl ⟨rfl,.inl rfl,H⟩))))) (dL h hi ahE (λq hq=>Km q ahy)) (eG h hi ahE (Km _ (Int.le_refl _))) (λa ha=>by rw[Km _ ahG];exact Int.le_refl _) (λV=>by unfold dC at V;simp at V) (λj hj e h0 h9=>?_) (λ_ _=>⟨⟨rfl,rfl,by show 1<=N;omega,rfl⟩,λe=>by simp[dV]at e,λj hj _=>Nat.zero_le _⟩) (λ_ e=>by simp at e);have h2:=(Fr (h.k j hj) ⟨h0,.inl h9⟩:_);have Y:=mS.one y hj hi (by rw[tS j e];omega) ahy;exact absurd Y e
 .rw[decide_eq_false H];exact h.upd (p':=⟨7,0,b,z⟩) hi mS tS (.inr (.inr (.inr (.inl ⟨rfl,rfl,by have I:=a1.1;omega,by have I:=a1.1;omega⟩)))) (dL h hi ahL (λq hq=>Km q ahy)) (eG h hi ahL (Km _ (Int.le_refl _))) (λa ha=>by rw[Km _ ahG];exact Int.le_refl _) (λV=>by unfold dC at V;simp at V) (λ_ _ _ _ _=>rfl) (λ_ e=>by simp at e) (λ_ e=>by simp at e)
def WsI.s13(h:WsI c n N ml x)(y:cO c n N ml)(l:NuL c N x.st.s.W)(hB:CoB c B x.st)(I:40<=B)(Y:B<=1000000000000){i:Nat}(hi:i<n)(b z:Int)(hp:(⟨13,0,b,z⟩:Sp)=sv x.U i)(ht:10<(sv x.st.T i).pc):WsI c n N ml (bo c N x i):=by
 refine kM ?_;intro hn Kw hk Lg oth Lo bA bW bF wA wW lA lW lF fA fW HA HW HF SF eL mS lS Km tS aS;have a1:=aS.2 ht;show WsI c n N ml ⟨ak c x.st i,x.d,x.U.set i ⟨if bB (sv x.st.T i) (sv (ak c x.st i).T i)then 0 else 13,0,b,z⟩⟩;rw[a1.2];by_cases H:(sv (ak c x.st i).T i).pc=0;.rw[decide_eq_true H];exact h.upd (p':=⟨0,0,b,z⟩) hi mS tS (.inl ⟨rfl,H⟩) (dL h hi ahE (λq hq=>Km q ahy)) (eG h hi ahE (Km _ (Int.le_refl _))) (λa ha=>by rw[Km _ ahG];exact Int.le_refl _) (λV=>by unfold dC at V;simp at V) (λ_ _ _ _ _=>rfl) (λ_ e=>by simp at e) (λ_ e=>by simp at e)
 .rw[decide_eq_false H];exact h.upd (p':=⟨13,0,b,z⟩) hi mS tS (.inr (.inr (.inr (.inr (.inr ⟨rfl,rfl,by have a2:=a1.1;omega⟩))))) (dL h hi ahL (λq hq=>Km q ahy)) (eG h hi ahL (Km _ (Int.le_refl _))) (λa ha=>by rw[Km _ ahG];exact Int.le_refl _) (λV=>by unfold dC at V;simp at V) (λ_ _ _ _ _=>rfl) (λ_ e=>by simp at e) (λ_ e=>by simp at e)
def WsI.s9(h:WsI c n N ml x)(y:cO c n N ml)(l:NuL c N x.st.s.W)(hB:CoB c B x.st)(KD:40<=B)(KE:B<=1000000000000){i:Nat}(hi:i<n)(b z:Int)(hp:(⟨9,0,b,z⟩:Sp)=sv x.U i)(ht:(sv x.st.T i).pc=10):WsI c n N ml (bo c N x i):=by
 refine kM ?_;intro hn Kw hk Lg oth Lo bA bW bF wA wW lA lW lF fA fW HA HW HF SF eL mS lS Km tS aS;obtain⟨⟨q1,Y,q3,q4⟩,q5,q6⟩:=Lg rfl rfl;have I:=g8 x.st.s x.d;have hs:=svS (show i<x.U.length by rw[h.lU];exact hi)
 have nr:∀H j,dC (sv (x.U.set i ⟨H,0,b,z⟩) j)->j≠i/\dC (sv x.U j):=λH j V=>by
  rw[hs]at V;split at V;.unfold dC at V;simp at V
  .rename_i e;exact⟨e,V⟩
 have go:∀(H:Int) (d':Dr),(H=9\/H=10)->(H=9->Aa c n N d' x.st.s.W (x.U.set i ⟨H,0,b,z⟩))->(H=10->∀j,j<n->j≠i->¬dC (sv x.U j))->WsI c n N ml ⟨onA x.st (aj x.st.s x.d).1,d',x.U.set i ⟨H,0,b,z⟩⟩:=λH d' I' o9 RS=>by
  refine h.upd (p':=⟨H,0,b,z⟩) hi (lE h y I) (λ_ _=>rfl) (.inr (.inr (.inr (.inr (.inl ⟨rfl,?_,ht⟩))))) (dL h hi ?_ (λq _=>by show ldW (aj _ _).1.W q=_;rw[I])) (eG h hi ?_ (by show ldW (aj _ _).1.W _=_;rw[I])) (λa _=>by show _<=ldW (aj _ _).1.W _;rw[I];exact Int.le_refl _) (λV=>by unfold dC at V;simp at V) (λj hj e h0 h9=>(Lo ht j hj e h0 h9).elim) (λ_ h9=>?_) (λ_ h10=>RS h10)
  .rcases I' with rfl|rfl
   .exact .inl rfl
   .exact .inr (.inl rfl)
  .rw[<-hp,rX ahz,rX ahz]
  .rw[<-hp];rcases I' with rfl|rfl<;>rfl
  .show Aa c n N d' (aj _ _).1.W _;rw[I];exact o9 h9
 show WsI c n N ml ⟨onA x.st (aj x.st.s x.d).1,(aj x.st.s x.d).2.1,x.U.set i ⟨if (aj x.st.s x.d).2.2=true then 10 else 9,0,b,z⟩⟩;by_cases NZ:x.d.second=true
 .have e1:aj x.st.s x.d=(af x.st.s (gaA x.d.at_),dT x.st.s x.d):=by unfold aj;rw[q1,NZ];rfl
  have e2:(aj x.st.s x.d).2=dT x.st.s x.d:=by rw[e1]
  rw[e2];unfold dT;by_cases O:ldW x.st.s.W (gaA x.d.at_)=x.d.o
  .rw[if_neg (by simpa using O)];have hg:=h.g x.d.at_ q3;have W1:=q5 NZ;have WA:gZ c n x.U x.d.at_=0:=by omega
   have ND:∀j,j<n->dC (sv x.U j)->c.node j≠x.d.at_:=λj hj V e=>by
    have:0<gZ c n x.U x.d.at_:=jK (P:=λj=>decide (c.node j=x.d.at_)&&fF (sv x.U j)) hj (by
     simp only[Bool.and_eq_true,decide_eq_true_eq]
     exact⟨e,EG ⟨V.1,.inr (.inr V.2)⟩⟩)
    omega
   by_cases Pg:x.d.at_+1=x.d.lim;.rw[if_pos Pg];refine go 10 _ (.inr rfl) (λe=>by simp at e) (λ_ j hj e V=>?_);have h1:=q6 j hj V;have h2:=ND j hj V;have h3:=Kw j hj;omega
   .rw[if_neg Pg];refine go 9 _ (.inl rfl) (λ_=>⟨⟨q1,Y,by show x.d.at_+1<N;omega,q4⟩,λe=>by simp at e,λj hj V=>?_⟩) (λe=>by simp at e);exact acp
  .rw[if_pos O,if_neg (by rw[Y];decide)];exact go 9 _ (.inl rfl) (λ_=>⟨⟨q1,Y,q3,q4⟩,λe=>by simp at e,λj hj V=>q6 j hj (nr 9 j V).2⟩) (λe=>by simp at e)
 .refine ajI ?_;intro e1 e2;exact go 9 _ (.inl rfl) (λ_=>⟨⟨q1,Y,q3,q4⟩,λ_=>Int.le_refl _,λj hj V=>q6 j hj (nr 9 j V).2⟩) (λe=>by simp at e)
def WsI.step(h:WsI c n N ml x)(y:cO c n N ml)(l:NuL c N x.st.s.W)(hB:CoB c B x.st)(V:40<=B)(Y:B<=1000000000000){i:Nat}(hi:i<n):WsI c n N ml (bo c N x i):=by
 have hk:=h.k i hi;obtain⟨p,I⟩:=LE (sv x.U i);rw[<-I]at hk;by_cases O:p.pc=0\/p.pc=10;.unfold bo;rw[<-I,if_pos O];exact h
 unfold ia at hk;obtain⟨pc,u,b,z⟩:=p;simp only at hk O;rcases hk with⟨q1,q2⟩|⟨rfl,q2,H⟩|⟨rfl,rfl,H⟩|⟨rfl,rfl,H⟩|⟨rfl,q2,H⟩|⟨rfl,rfl,H⟩
 .exact absurd (.inl q1) O
 .rcases q2 with rfl|rfl|rfl|rfl|rfl|rfl
  .exact h.s1 y l hB V Y hi b z I H
  .exact h.s2 y l hB V Y hi b z I H
  .exact h.s3 y l hB V Y hi b z I H
  .exact h.s4 y l hB V Y hi b z I H
  .exact absurd (.inr rfl) O
  .exact h.s11 y l hB V Y hi b z I H
 .exact h.s5 y l hB V Y hi b z I H
 .exact h.s7 y l hB V Y hi b z I H
 .rcases q2 with rfl|rfl|rfl
  .exact h.s9 y l hB V Y hi b z I H
  .exact absurd (.inr rfl) O
  .exact h.s12 y l hB V Y hi b z I H
 .exact h.s13 y l hB V Y hi b z I H
end
end
section
open Go Go.RowKit
section
variable{c:CoC}{L:Nat}{x:Nu}{st:Co}{o:Nat}
def zV(h:bU c n L B o x.st)(k:k8 c n N L)(hB:40<=B)(Le:B<=1000000000000){i:Nat}(hi:i<n)(p:Sp)(hf:p.a≠1->p.pc=12->1<=ldW x.st.s.W (nuFl N)):bU c n L (B+4) (o+1) (iH c N x i p).1:=by
 refine ajk ?_;intro Mj Pk Kp;have St:∀{st'},bU c n L (B+2) (o+1) st'->bU c n L (B+4) (o+1) (bG c st' i):=λ{st'} q=>by exact abX
 have V:∀{st'},bU c n L (B+2) (o+1) st'->bU c n L (B+4) (o+1) (aA st' i):=λ{st'} q=>by exact abY
 have I:bU c n L (B+4) (o+1) (onA x.st (aj x.st.s x.d).1):=h.on ahy ((h.bd.w.mono ahy).same (g8 _ _)) (vK _ _);have Y:1<=ldW x.st.s.W (nuFl N)->bU c n L (B+2) (o+1) (onA x.st (addA x.st.s (nuFl N) (-1))):=λhq=>h.on ahy ((h.bd.w.mono ahy).st (nuFl N) (ldW x.st.s.W (nuFl N)+ -1) (by have:=(h.bd.w.ld ahy (nuFl N)).2;omega) (by rw[d7,IntWalk.i64_in _ (by have:=(h.bd.w.ld ahy (nuFl N)).2;omega)])) (lJ _ _ _);unfold iH;split
 .split;.exact(Pk _).mono ahy
  split;.exact abZ
  split;.exact(Pk _).mono ahy
  split;.exact abZ
  .exact abZ
 rename_i H;split;.exact St (Mj _)
 split;.exact ab0
 split;.exact I
 split;.rename_i YT;exact V (Y (hf H YT))
 .exact ab0
def zW(h:bU c n L B o x.st)(k:k8 c n N L)(I:40<=B)(H:B<=1000000000000){i:Nat}(hi:i<n)(O:(sv x.U i).a≠1->(sv x.U i).pc=12->1<=ldW x.st.s.W (nuFl N)):bU c n L (B+4) (o+1) (bo c N x i).st:=by
 unfold bo;split;.exact h.up ahy ahy
 .exact zV h k I H hi _ O
def uH(x:Nu)(i:Nat)(r:Bool):(ff x i r).st=x.st:=by unfold ff;split<;>rfl
def WsI.f12(h:WsI c n N ml x){i:Nat}(hi:i<n):(sv x.U i).a≠1->(sv x.U i).pc=12->1<=ldW x.st.s.W (nuFl N):=λV H=>by
 have I:=h.k i hi
 have O:(sv x.U i).a=0:=by unfold ia at I;omega
 apply Classical.byContradiction
 intro Y
 have hc:=h.fl
 exact h.none ahy hi ⟨O,.inr (.inr (.inr H))⟩
structure WsS(c:CoC)(n N L:Nat)(ml:Nat->Nat)(B:Int)(x:Nu):Prop where
 i:WsI c n N ml x
 ok:bU c n L B x.st.s.ops x.st
def sy(c:CoC)(N:Nat)(x:Nu)(kd i:Int):Nu:=
 if okI x.U i then if kd=0 then bo c N x i.toNat else if kd=1 then ff x i.toNat false else if kd=2 then aF x i.toNat else if kd=3 then ff x i.toNat true else x else x
def WsS.act(h:WsS c n N L ml B x)(k:NuK c n N L ml)(I:40<=B)(H:B<=1000000000000)(kd i:Int):WsS c n N L ml (B+4) (sy c N x kd i)/\(sy c N x kd i).st.s.ops<=x.st.s.ops+1/\(kd≠0->(sy c N x kd i).st.s.ops=x.st.s.ops):=by
  have same:WsS c n N L ml (B+4) x:=⟨h.i,h.ok.mono ahy⟩;unfold sy;split
  . rename_i O;have hi:i.toNat<n:=(by obtain⟨V,h1⟩:=O;have:=h.i.lU;omega);split;. rename_i k0;have q:=zW h.ok k.w I H hi (h.i.f12 hi);refine⟨⟨h.i.step k.y ⟨k.tg,by rw[h.ok.len];exact k.len⟩ h.ok.bd I H hi,⟨q.bd,q.v,q.len,Nat.le_refl _⟩⟩,q.ops,λe=>absurd k0 e⟩
    split;. have e:=uH x i.toNat false;refine⟨⟨h.i.ask hi false,by rw[e];exact same.ok⟩,by rw[e];omega,λ_=>by rw[e]⟩
    split;. have e:=kY x i.toNat;refine⟨⟨h.i.leave hi,by rw[e];exact same.ok⟩,by rw[e];omega,λ_=>by rw[e]⟩
    split;. have e:=uH x i.toNat true;refine⟨⟨h.i.ask hi true,by rw[e];exact same.ok⟩,by rw[e];omega,λ_=>by rw[e]⟩
    . exact⟨same,by omega,λ_=>rfl⟩
  . exact⟨same,by omega,λ_=>rfl⟩
end
section
variable{kg kl par:Nat}{bud:Int}{s:Ar}
def Ki(hc:a5 P T=0)(Y:1<=kg/\kg<=5)(V:1<=kl/\kl<=5)(hp:1<=par/\par<=4)(hs:s.W=[]):WsS (fi kg kl par bud P T (smA s (ac P).length)) T.length (ac P).length (bJ kg kl par P T (smA s (ac P).length)).s.W.length (mtQ P T) 40 ⟨bJ kg kl par P T (smA s (ac P).length),dr0,List.replicate T.length Sp.zero⟩/\(bJ kg kl par P T (smA s (ac P).length)).s.ops<=s.ops+40:=by
  refine ajM ?_;intro hz O5 mP;have hw:∀y:Int,y<=((smA s (ac P).length).W.length:Int)->ldW (bJ kg kl par P T (smA s (ac P).length)).s.W y=0:=λy hy=>by exact ab1
  have h:∀i,sv (List.replicate T.length Sp.zero) i=Sp.zero:=svR _;refine⟨⟨⟨xI hc Y V hp O5,by simp,λi hi=> .inl ⟨?_,?_⟩,λa O=>?_,?_,λi hi h0 I=>?_,λi hi h0 I=>?_⟩,⟨mP.bd,mP.v,mP.len,Nat.le_refl _⟩⟩,mP.ops⟩;. show(sv (List.replicate T.length Sp.zero) i).pc=0;rw[h];rfl
  . show(sv (List.replicate T.length Sp.zero) i).pc=0;rw[h];rfl
  . have hc0:gZ (fi kg kl par bud P T (smA s (ac P).length)) T.length (List.replicate T.length Sp.zero) a=0:=(by unfold gZ jp;refine List.countP_eq_zero.2 (λj _=>?_);rw[h];simp[fF,Sp.zero]);show ldW _ _=ldW _ _+((gZ _ _ (List.replicate T.length Sp.zero) a:Nat):Int);rw[hc0];have g1:=eU O;have g2:=bK O;unfold nuFl at g1 g2;have hl:=hz.2;rw[hw _ ah1,hw _ ah1];rfl
  . have hc0:my T.length (List.replicate T.length Sp.zero)=0:=(by unfold my jp;refine List.countP_eq_zero.2 (λj _=>?_);rw[h];simp[wrC,Sp.zero]);show ldW _ _=((my _ (List.replicate T.length Sp.zero):Nat):Int);rw[hc0];have hl:=hz.2;rw[hw _ (by rw[hl];unfold nuFl;omega)];rfl
  . have H:(sv (List.replicate T.length Sp.zero) i).pc=9:=I;rw[h]at H;simp[Sp.zero]at H
  . have H:(sv (List.replicate T.length Sp.zero) i).pc=10:=I;rw[h]at H;simp[Sp.zero]at H
end
end
end Go.Proofs.YtglokdbiggbkjaaGreat
