/- Joined texts. -/
import Derived.Test.YtglokdbiggbkjaaGreatMgWholeRefuses0
import Derived.Test.YtglokdbiggbkjaaGreatMgWholeRefuses20
import Derived.Test.YtglokdbiggbkjaaGreatMgWholeRefuses21
set_option linter.unusedVariables false
set_option linter.unusedSimpArgs false
set_option linter.defProp false
set_option maxRecDepth 100000
set_option maxHeartbeats 16000000
open Go.Proofs.Tryz
namespace Go.Proofs.YtglokdbiggbkjaaGreat
open Go.IntKind(i64)
open Go.Value(int bool slice agg tuple pointer)
open Go.Ending(returned)
open Go.Obj(cells)
variable{B BC:Nat->Prop}{w w':World}{a n N j:Nat}{P T:List Int}{ml:Nat->Nat}
section
open Go.RowKit
section
variable{g:Nat}{X:SmX}{c:CoC}{st st':Co}{d d':Dr}{U:List Sp}{s':Ar}
def IK(h:av 337 B BC w a g X c P T st d U):E 401 #[↑X.l] w λe w'=>e= returned (J T.length)/\w=w':=by have c6:=h.cs.2.2.2.2.2.2;clear h;go_enter func401,ntmps401;exact aaa
def AO(h:av 337 B BC w a g X c P T st d U)(i:Int)(r:Bool)(V:r=decide (okI U i)):E 402 #[↑X.l,J i] w λe w'=>e= returned (.bool r)/\w=w':=by
 have HT:=qh (IK h);have Jy:=h.lU;clear h;by_cases h0:0<=i
 .by_cases h1:i<T.length;.refine aka ?_;intro e;subst e;clear V;go_enter func402,ntmps402;exact aad
  .have e:r=false:=(by rw[V];exact decide_eq_false (λk=>h1 aiE));subst e;clear V;go_enter func402,ntmps402;exact abM
 .have e:r=false:=by rw[V];exact decide_eq_false (λk=>h0 k.1)
  subst e;clear V;go_enter func402,ntmps402;exact aaa
def oU(h:av 337 B BC w a g X c P T st d U)(i:Int):E 399 #[↑X.l,J i] w λe w'=>e= returned (aF (getS U i))/\Below w.heap.size w w':=by
  refine ajr ?_;intro I H Ju Jx Jy;by_cases O:okI U i;. have V:=qh (AO I i true (decide_eq_true O).symm);have hp:=dG O;obtain⟨p,i'⟩:=LE (getS U i);rw[<-i']at hp ⊢;have c6:=h.cs.2.2.2.2.2.2;refine ai1 ?_;intro a0 a1 a2 a3;obtain⟨Y,h1⟩:=id O;rw[Jy]at h1;obtain⟨n,rfl⟩:=Int.eq_ofNat_of_zero_le Y;simp only[Int.toNat_natCast]at a0 a1 a2 a3;have t2:¬(n:Int)<0:=(by omega);have t4:n<T.length:=(by omega);clear h I hp i' Y h1 O Jy;go_enter func399,ntmps399;go_wp2_with (go_at_call 402;refine V.o.mono ?_;rintro e w' ⟨rfl,rfl⟩);exact bodyPost_ret (results_cell_row ahI _ _ w.heap.size 113 _ (0,0) _ ahI (heap_alloc_new w _) Tryz.underlying113 rfl ahH) rfl ⟨rfl,(Below.refl _ _).alloc (Nat.le_refl _) _⟩
  . have V:=qh (AO I i false (decide_eq_false O).symm);rw[dz O];clear h I O Jy;go_enter func399,ntmps399;go_wp2_with (go_at_call 402;refine V.o.mono ?_;rintro e w' ⟨rfl,rfl⟩);exact bodyPost_ret (results_cell_row ahI _ _ w.heap.size 113 _ (0,0) _ ahI (heap_alloc_new w _) Tryz.underlying113 rfl ahH) rfl ⟨rfl,(Below.refl _ _).alloc (Nat.le_refl _) _⟩
end
end
section
open Go
variable{U:List Sp}{p':Sp}{s':Ar}{v:Int}{W':List Int}
def iC(c:CoC)(N:Nat)(x:Nu)(i:Nat)(p:Sp):Co×Dr×Int:=
 if p.a=1 then
  if p.pc=1 then(onA x.st (af x.st.s (nuFl N)),x.d,if ldW x.st.s.W (nuFl N)=0 then 2 else 1)
  else if p.pc=2 then(onA x.st (addA x.st.s (gaA (c.node i)) 1),x.d,3)
  else if p.pc=3 then(onA x.st (af x.st.s (nuFl N)),x.d,if ldW x.st.s.W (nuFl N)=0 then 10 else 4)
  else if p.pc=4 then(onA x.st (addA x.st.s (gaW (c.node i)) 1),x.d,1)
  else(onA x.st (addA x.st.s (gaW (c.node i)) 1),x.d,0)
 else if p.pc=5 then(bz c (onA x.st (addA x.st.s (nuFl N) 1)) i,x.d,7)
 else if p.pc=7 then(aj c x.st i,if bo (sv x.st.T i) (sv (aj c x.st i).T i)then dP x.d N false else x.d,if bo (sv x.st.T i) (sv (aj c x.st i).T i)then 9 else 7)
 else if p.pc=9 then(onA x.st (ai x.st.s x.d).1,(ai x.st.s x.d).2.1,if (ai x.st.s x.d).2.2=true then 10 else 9)
 else if p.pc=12 then(az (onA x.st (addA x.st.s (nuFl N) (-1))) i,x.d,13)
 else(aj c x.st i,x.d,if bo (sv x.st.T i) (sv (aj c x.st i).T i)then 0 else 13)
def bh(c:CoC)(N:Nat)(x:Nu)(i:Nat):Nu:=
 if (sv x.U i).pc=0\/(sv x.U i).pc=10 then x
 else⟨(iC c N x i (sv x.U i)).1,(iC c N x i (sv x.U i)).2.1,x.U.set i {(sv x.U i)with pc:=(iC c N x i (sv x.U i)).2.2}⟩
def fb(x:Nu)(i:Nat)(read:Bool):Nu:=
 if (sv x.U i).pc=0 then {x with U:=x.U.set i (if read then⟨1,1,0,0⟩else⟨5,0,0,0⟩)} else x
def fB(p:Sp):Bool:=decide (p.a=1/\(p.pc=3\/p.pc=4\/p.pc=10\/p.pc=11))
def dx(p:Sp):Prop:=p.a=1/\(p.pc=10\/p.pc=11)
def Ef(p:Sp):Prop:=p.a=0/\(p.pc=9\/p.pc=10\/p.pc=12)
def wrC(p:Sp):Bool:=decide (p.a=0/\(p.pc=7\/p.pc=9\/p.pc=10\/p.pc=12))
def gU(p t:Sp):Prop:=
 (p.pc=0/\t.pc=0)\/(p.a=1/\(p.pc=1\/p.pc=2\/p.pc=3\/p.pc=4\/p.pc=10\/p.pc=11)/\t.pc=0)\/(p.a=0/\p.pc=5/\t.pc=0)\/
  (p.a=0/\p.pc=7/\0<t.pc/\t.pc<10)\/(p.a=0/\(p.pc=9\/p.pc=10\/p.pc=12)/\t.pc=10)\/(p.a=0/\p.pc=13/\10<t.pc)
def gO(c:CoC)(n:Nat)(U:List Sp)(a:Nat):Nat:=jc n (λj=>decide (c.node j=a)&&fB (sv U j))
def lH(n:Nat)(U:List Sp):Nat:=jc n (λj=>wrC (sv U j))
def zl(c:CoC)(n N:Nat)(d:Dr)(W:List Int)(U:List Sp):Prop:=
 (d.busy=true/\d.once=false/\d.at_<N/\d.lim=N)/\(d.second=true->d.o<=ldW W (gaW d.at_))/\∀j,j<n->dx (sv U j)->d.at_<=c.node j
structure WsI(c:CoC)(n N:Nat)(ml:Nat->Nat)(x:Nu):Prop where
 m:CoM c n N ml x.st
 lU:x.U.length=n
 k:∀i,i<n->gU (sv x.U i) (sv x.st.T i)
 g:∀a,a<N->ldW x.st.s.W (gaA a)=ldW x.st.s.W (gaW a)+(gO c n x.U a:Int)
 fl:ldW x.st.s.W (nuFl N)=(lH n x.U:Int)
 dr:∀i,i<n->(sv x.U i).a=0->(sv x.U i).pc=9->zl c n N x.d x.st.s.W x.U
 hd:∀i,i<n->(sv x.U i).a=0->(sv x.U i).pc=10->∀j,j<n->¬dx (sv x.U j)
section
variable{c:CoC}{x x':Nu}
def WsI.safe(h:WsI c n N ml x)(y:cH c n N ml){i:Nat}(hi:i<n)(h1:(sv x.U i).pc=10)(H:(sv x.U i).a=0)(hj:j<n)(I:(sv x.U j).pc=10):j=i/\(sv x.U j).a=0:=by
 have ki:=h.k i hi;have V:=h.k j hj;by_cases O:(sv x.U j).a=1;.exact absurd ⟨O,.inl I⟩ (h.hd i hi H h1 j hj)
 .have t1:(sv x.st.T i).pc=10:=by unfold gU at ki;omega
  have t2:(sv x.st.T j).pc=10/\(sv x.U j).a=0:=by unfold gU at V;omega
  exact abO
def WsI.one(h:WsI c n N ml x)(y:cH c n N ml){i:Nat}(hi:i<n)(H:j<n)(h1:(sv x.st.T i).pc=10)(I:(sv x.st.T j).pc=10):i=j:=h.m.one y hi H ahE ahE
def EF{p t:Sp}(h:gU p t)(hw:Ef p):t.pc=10:=by unfold gU at h;unfold Ef at hw;omega
def lK{i:Nat}(h:i<U.length)(hi:i<n)(p:Sp)(a:Nat):gO c n (U.set i p) a+(if c.node i=a/\fB (sv U i)=true then 1 else 0)=gO c n U a+(if c.node i=a/\fB p=true then 1 else 0):=by unfold gO;have:=jv (P:=λj=>decide (c.node j=a)&&fB (sv U j)) (Q:=λj=>decide (c.node j=a)&&fB (sv (U.set i p) j)) (i:=i) (λj H=>by rw[svS h,if_neg H]) n hi;simp only[Bool.and_eq_true,decide_eq_true_eq]at this;rw[svS h,if_pos rfl]at this;exact this
def WsI.upd(h:WsI c n N ml x){i:Nat}(hi:i<n){st':Co}{d':Dr}(hm:CoM c n N ml st')(hT:∀j,j≠i->sv st'.T j=sv x.st.T j)(hk:gU p' (sv st'.T i))(hg:∀a,a<N->ldW st'.s.W (gaA a)=ldW st'.s.W (gaW a)+(gO c n (x.U.set i p') a:Int))(Mc:ldW st'.s.W (nuFl N)=(lH n (x.U.set i p'):Int))(hH:∀a,a<N->ldW x.st.s.W (gaW a)<=ldW st'.s.W (gaW a))(Lw:dx p'->dx (sv x.U i)\/∀j,j<n->j≠i->¬Ef (sv x.U j))(hd:∀j,j<n->j≠i->(sv x.U j).a=0->(sv x.U j).pc=9->d'=x.d)(od:p'.a=0->p'.pc=9->zl c n N d' st'.s.W (x.U.set i p'))(oh:p'.a=0->p'.pc=10->∀j,j<n->j≠i->¬dx (sv x.U j)):WsI c n N ml ⟨st',d',x.U.set i p'⟩:=by
  refine akh ?_;intro hl;have hs:=svS hl p';refine⟨hm,by rw[List.length_set];exact h.lU,λj O=>?_,hg,Mc,λj O h0 h9=>?_,λj O h0 h10=>?_⟩
  . show gU (sv (x.U.set i p') j) (sv st'.T j);rw[hs];split;. rename_i e;rw[e];exact hk
    . rename_i e;rw[hT j e];exact h.k j O
  . have H:(sv (x.U.set i p') j).a=0:=h0;have I:(sv (x.U.set i p') j).pc=9:=h9;rw[hs]at H I;by_cases e:j=i;. rw[if_pos e]at H I;exact od H I
    . rw[if_neg e]at H I;obtain⟨q1,q2,q3⟩:=h.dr j O H I;show zl c n N d' st'.s.W (x.U.set i p');rw[hd j O e H I];refine⟨q1,λhq=>Int.le_trans (q2 hq) (hH _ q1.2.2.1),λk hk V=>?_⟩;rw[hs]at V;split at V
      . rename_i e2;rcases Lw V with h1|h1
        . rw[e2];exact q3 i hi h1
        . exact absurd ⟨H,.inl I⟩ (h1 j O e)
      . exact q3 k hk V
  . have H:(sv (x.U.set i p') j).a=0:=h0;have I:(sv (x.U.set i p') j).pc=10:=h10;rw[hs]at H I;intro k hk V;have Y:dx (sv (x.U.set i p') k):=V;rw[hs]at Y;by_cases e:j=i
    . rw[if_pos e]at H I;split at Y;. unfold dx at Y;omega
      . rename_i e2;exact oh H I k hk e2 Y
    . rw[if_neg e]at H I;split at Y
      . rcases Lw Y with h1|h1
        . exact h.hd j O H I i hi h1
        . exact h1 j O e ⟨H,.inr (.inl I)⟩
      . exact h.hd j O H I k hk Y
def qT(h:WsI c n N ml x)(y:cH c n N ml)(l:NuL c N x.st.s.W){z:Int}(hz:1<=z/\z<=nuFl N)(v:Int)(e:s'.W=stW x.st.s.W z v):(∀q,ldW s'.W q=if q=z then v else ldW x.st.s.W q)/\CoM c n N ml (onA x.st s'):=by exact abP
def kW(h:WsI c n N ml x)(y:cH c n N ml)(e:s'.W=x.st.s.W):CoM c n N ml (onA x.st s'):=
 h.m.low y (by rw[e]) (λq _=>by rw[e]) (h.m.v.ars s')
def nD{i:Nat}(h:i<U.length)(hi:i<n)(p:Sp):lH n (U.set i p)+(if wrC (sv U i)=true then 1 else 0)=lH n U+(if wrC p=true then 1 else 0):=by unfold lH;have:=jv (P:=λj=>wrC (sv U j)) (Q:=λj=>wrC (sv (U.set i p) j)) (i:=i) (λj H=>by rw[svS h,if_neg H]) n hi;rw[svS h,if_pos rfl]at this;exact this
def ew(h:WsI c n N ml x){i:Nat}(hi:i<n)(I:wrC p'=wrC (sv x.U i))(O:v=ldW x.st.s.W (nuFl N)):v=(lH n (x.U.set i p'):Int):=by have:=nD (n:=n) (show i<x.U.length by rw[h.lU];exact hi) hi p';rw[I]at this;rw[O,h.fl];omega
def I3(h:WsI c n N ml x){i:Nat}(hi:i<n)(h0:wrC (sv x.U i)=false)(h1:wrC p'=true)(O:v=ldW x.st.s.W (nuFl N)+1):v=(lH n (x.U.set i p'):Int):=by exact acl
def Fb(h:WsI c n N ml x){i:Nat}(hi:i<n)(h0:wrC (sv x.U i)=true)(h1:wrC p'=false)(O:v=ldW x.st.s.W (nuFl N)+ -1):v=(lH n (x.U.set i p'):Int):=by exact acl
def xW{P:Nat->Bool}{i:Nat}(h:jc n P=0)(hi:i<n):P i=false:=by
 cases H:P i with
 |false=>rfl
 |true=>have:=jw hi H;omega
def WsI.none(h:WsI c n N ml x)(H:ldW x.st.s.W (nuFl N)=0)(I:j<n):¬((sv x.U j).a=0/\((sv x.U j).pc=7\/(sv x.U j).pc=9\/(sv x.U j).pc=10\/(sv x.U j).pc=12)):=by have h1:=h.fl;rw[H]at h1;have:=xW (P:=λj=>wrC (sv x.U j)) (n:=n) (show jc n _=0 by have:(lH n x.U:Int)=0:=h1.symm;unfold lH at this;omega) I;exact of_decide_eq_false this
def CQ(h:WsI c n N ml x){i:Nat}(hi:i<n)(I:fB p'=fB (sv x.U i))(a:Nat):gO c n (x.U.set i p') a=gO c n x.U a:=by have:=lK (c:=c) (n:=n) (show i<x.U.length by rw[h.lU];exact hi) hi p' a;rw[I]at this;omega
def dF(h:WsI c n N ml x){i:Nat}(hi:i<n)(I:fB p'=fB (sv x.U i))(hw:∀q,q<nuFl N->ldW W' q=ldW x.st.s.W q):∀a,a<N->ldW W' (gaA a)=ldW W' (gaW a)+(gO c n (x.U.set i p') a:Int):=λa H=>by
 rw[hw _ (eO H).2,hw _ (bD H).2,CQ h hi I a];exact h.g a H
def GH(h:WsI c n N ml x)(hn:∀j,j<n->c.node j<N){i:Nat}(hi:i<n)(h0:fB (sv x.U i)=false)(h1:fB p'=true)(hw:∀q,ldW W' q=if q=gaA (c.node i)then ldW x.st.s.W (gaA (c.node i))+1 else ldW x.st.s.W q):∀a,a<N->ldW W' (gaA a)=ldW W' (gaW a)+(gO c n (x.U.set i p') a:Int):=λa ha=>by
 have h2:=lK (c:=c) (n:=n) (show i<x.U.length by rw[h.lU];exact hi) hi p' a
 exact abQ
def AG(h:WsI c n N ml x)(hn:∀j,j<n->c.node j<N){i:Nat}(hi:i<n)(h0:fB (sv x.U i)=true)(h1:fB p'=false)(hw:∀q,ldW W' q=if q=gaW (c.node i)then ldW x.st.s.W (gaW (c.node i))+1 else ldW x.st.s.W q):∀a,a<N->ldW W' (gaA a)=ldW W' (gaW a)+(gO c n (x.U.set i p') a:Int):=λa ha=>by
 have h2:=lK (c:=c) (n:=n) (show i<x.U.length by rw[h.lU];exact hi) hi p' a
 exact abR
end
end
section
open Go.RowKit
section
variable{w0:World}{g:Nat}{X:SmX}{c:CoC}{st st':Co}{d d':Dr}{U:List Sp}{s':Ar}{BB:Int}
def ER(h:av 337 B BC w a g X c P T st d U)(n:Nat)(hn:n<T.length)(r:Bool):E 396 #[↑X.l,J n,.bool r] w (au 337 B BC w a g X c P T U n (fb ⟨st,d,U⟩ n r)):=by
 have mP:okI U (n:Int):=⟨by omega,by rw[h.lU];omega⟩;have HH:=qh (AO h n true (decide_eq_true mP).symm);have hp:=h.thr hn;have H:=qh h;obtain⟨x',O⟩:=LE (fb ⟨st,d,U⟩ n r);rw[<-O];unfold fb at O;obtain⟨p,i'⟩:=LE (sv U n);simp only at O;rw[<-i']at hp O;have c6:=h.cs.2.2.2.2.2.2;refine ai1 ?_;intro a0 a1 a2 a3;have f1:∀j,w.frozen? ⟨X.q,j,none⟩=false:=λj=>h.sp.free j;have t2:¬(n:Int)<0:=by omega
 have RA:X.q≠X.l:=h.o3.1;have HX:=qh O;have HP:=qh hp;clear h hp i' mP O;by_cases I:p.pc=0
 .have y1:(p.pc !=0)=false:=by simpa using I
  have HP0:=qh I;clear I;have V:=qh (H.o.put4 hn ⟨5,0,0,0⟩);have e6:=V.o.cs.2.2.2.2.2.2;cases r;.go_enter func396,ntmps396;go_wp2_with fail;refine LT HH.o ?_;go_wp2;go_ret;rw[HX.o,if_pos HP0.o];first|exact au.stay (V.o) (ft _ _ _ _ _ _) rfl|exact au.put HP.o (V.o) (ft _ _ _ _ _ _) rfl ahO
  .go_enter func396,ntmps396;go_wp2_with fail;refine LT HH.o ?_;go_wp2;go_ret;rw[HX.o,if_pos HP0.o];have Y:=V.o.put4 hn ⟨1,1,0,0⟩;rw[List.set_set]at Y;first|exact au.stay (Y) ((ft _ _ _ _ _ _).trans (ft _ _ _ _ _ _)) rfl|exact au.put HP.o (Y) ((ft _ _ _ _ _ _).trans (ft _ _ _ _ _ _)) rfl ahO
 .have y1:(p.pc !=0)=true:=by simpa using I
  have HP0:=qh I;clear I;go_enter func396,ntmps396;exact abU
def Be(h:av 337 B BC w a g X c P T st d U)(n:Nat)(hn:n<T.length)(ha:(sv U n).pc=10->(sv U n).a=0\/(sv U n).a=1):E 397 #[↑X.l,J n] w (au 337 B BC w a g X c P T U n (aE ⟨st,d,U⟩ n)):=by
 have JL:=aM;have F':=oU h n;have hp:=h.thr hn;have hg:getS U (n:Int)=sv U n:=by exact abV
 rw[hg]at F';refine aj6 ?_;intro H x' p i' mT;rw[<-i']at hp mT F' ha;have HS:=qh F';have HP:=qh hp;refine aj0 ?_;intro t2 LU;clear h hp i' hg F';obtain⟨pc,u,b,z⟩:=p;simp only at ha mT;unfold aF at HS;by_cases JW:pc=10
 .subst JW;have Ku:=ha rfl;rw[if_pos rfl]at mT;clear ha;rcases Ku with rfl|rfl
  .have HX:Kq (x'=⟨st,d,U.set n ⟨12,0,b,z⟩⟩):=qh mT;have x1:IntKind.i64.wrap 12=12:=IntWalk.i64_in _ ahE;clear mT;go_enter func397,ntmps397;go_wp2_with fail;refine ajb ?_;intro w1 b1 K1 T1;go_upto_region 2 with fail;obtain⟨Y,Kr⟩:=LE w1.heap.size;obtain⟨V,J1⟩:=LE (w1.alloc (cells #[J 10,J 0,J b,J z] 113));rw[<-J1,<-Kr];have O:=qh (show av 337 B BC V a g X c P T st d U/\aa (SmS a g X) w V/\Blk V Y 113 #[J 10,J 0,J b,J z]/\Y≠X.q from⟨by rw[J1];exact K1.o.below ((Below.refl _ _).alloc (Nat.le_refl _) _),by rw[J1];exact T1.o.alloc _,by rw[J1,Kr];exact Blk.new _ _ _,by have q1:=K1.o.sp.lt;omega⟩);clear J1 Kr K1 T1;have HC:=qh (λW (U':List Sp) (k:av 337 B BC W a g X c P T st d U') (I:Blk W Y 113 #[J 10,J 0,J b,J z])=>And.intro k.cs.2.2.2.2.2.2 (show W.cell? ⟨Y,1,none⟩=some (J 0)from I.cell 1));have K2:=qh (O.o.1.below (Below.refl _ _).drew);have B2:=qh ((aa.refl [] V).drew.blk O.o.2.2.1 ahF);have K3:=qh ((O.o.1.put0 HP.o (p':=(⟨12,0,b,z⟩:Sp)) (u:= J 12) rfl).below (Below.refl _ _).drew);have T3:=qh ((O.o.2.1.trans (dW (n*4) (J 12))).drew);have B3:=qh (((aV _ _ _:aa [X.q] V (V.setCell ⟨X.q,n*4,none⟩ (J 12))).drew).blk O.o.2.2.1 (by simp;exact O.o.2.2.2));have v0:V.cell? Y=some (J 10):=O.o.2.2.1.cell 0;have e0:=ST (K2.o.sp.cell HP.o 0 _ rfl);have z0:=K2.o.sp.free (n*4);go_wp2_with fail
   go_region_held3 (λW=>Z W X.l 6 (slice (some ⟨X.q,0,none⟩) T.length T.length)/\Z W Y 1 (J 0))
    (first|with_reducible exact HC.o _ _ K2.o B2.o|with_reducible exact HC.o _ _ K3.o B3.o)
    (first|fail)
   exact abW
  .have HX:Kq (x'=⟨st,d,U.set n ⟨11,1,b,z⟩⟩):=qh mT;have x1:IntKind.i64.wrap 11=11:=IntWalk.i64_in _ ahE;clear mT;go_enter func397,ntmps397;go_wp2_with fail;refine ajb ?_;intro w1 b1 K1 T1;go_upto_region 2 with fail;obtain⟨Y,Kr⟩:=LE w1.heap.size;obtain⟨V,J1⟩:=LE (w1.alloc (cells #[J 10,J 1,J b,J z] 113));rw[<-J1,<-Kr];have O:=qh (show av 337 B BC V a g X c P T st d U/\aa (SmS a g X) w V/\Blk V Y 113 #[J 10,J 1,J b,J z]/\Y≠X.q from⟨by rw[J1];exact K1.o.below ((Below.refl _ _).alloc (Nat.le_refl _) _),by rw[J1];exact T1.o.alloc _,by rw[J1,Kr];exact Blk.new _ _ _,by have q1:=K1.o.sp.lt;omega⟩);clear J1 Kr K1 T1;have HC:=qh (λW (U':List Sp) (k:av 337 B BC W a g X c P T st d U') (I:Blk W Y 113 #[J 10,J 1,J b,J z])=>And.intro k.cs.2.2.2.2.2.2 (show W.cell? ⟨Y,1,none⟩=some (J 1)from I.cell 1));have K2:=qh (O.o.1.below (Below.refl _ _).drew);have B2:=qh ((aa.refl [] V).drew.blk O.o.2.2.1 ahF);have K3:=qh ((O.o.1.put0 HP.o (p':=(⟨11,1,b,z⟩:Sp)) (u:= J 11) rfl).below (Below.refl _ _).drew);have T3:=qh ((O.o.2.1.trans (dW (n*4) (J 11))).drew);have B3:=qh (((aV _ _ _:aa [X.q] V (V.setCell ⟨X.q,n*4,none⟩ (J 11))).drew).blk O.o.2.2.1 (by simp;exact O.o.2.2.2));have v0:V.cell? Y=some (J 10):=O.o.2.2.1.cell 0;have e0:=ST (K2.o.sp.cell HP.o 0 _ rfl);have z0:=K2.o.sp.free (n*4);go_wp2_with fail
   go_region_held3 (λW=>Z W X.l 6 (slice (some ⟨X.q,0,none⟩) T.length T.length)/\Z W Y 1 (J 1))
    (first|with_reducible exact HC.o _ _ K2.o B2.o|with_reducible exact HC.o _ _ K3.o B3.o)
    (first|fail)
   exact abW
 .have y1:(pc !=10)=true:=by simpa using JW
  have HX:=qh mT;have HP0:=qh JW;clear JW ha mT;go_enter func397,ntmps397;exact acb
end
end
section
open Go
variable{p:Sp}
section
variable{c:CoC}{x:Nu}{B:Int}
def rq(h:¬(p.a=1/\(p.pc=3\/p.pc=4\/p.pc=10\/p.pc=11))):fB p=false:=decide_eq_false h
def DT(h:p.a=1/\(p.pc=3\/p.pc=4\/p.pc=10\/p.pc=11)):fB p=true:=decide_eq_true h
def IQ(h:¬(p.a=0/\(p.pc=7\/p.pc=9\/p.pc=10\/p.pc=12))):wrC p=false:=decide_eq_false h
def WsI.ask(h:WsI c n N ml x){i:Nat}(hi:i<n)(r:Bool):WsI c n N ml (fb x i r):=by
 unfold fb;split
 .rename_i Y;have O:=h.k i hi;have H:(sv x.st.T i).pc=0:=by unfold gU at O;omega
  have I:fB (sv x.U i)=false:=rq ahE;have hc:wrC (sv x.U i)=false:=IQ ahE;cases r;.exact h.upd (p':=⟨5,0,0,0⟩) hi h.m (λ_ _=>rfl) (.inr (.inr (.inl ⟨rfl,rfl,H⟩))) (dF h hi (by rw[I];rfl) (λ_ _=>rfl)) (ew h hi (by rw[hc];rfl) rfl) (λ_ _=>Int.le_refl _) (λV=>by unfold dx at V;simp at V) (λ_ _ _ _ _=>rfl) (λ_ e=>by simp at e) (λ_ e=>by simp at e)
  .exact h.upd (p':=⟨1,1,0,0⟩) hi h.m (λ_ _=>rfl) (.inr (.inl ⟨rfl,.inl rfl,H⟩)) (dF h hi (by rw[I];rfl) (λ_ _=>rfl)) (ew h hi (by rw[hc];rfl) rfl) (λ_ _=>Int.le_refl _) (λV=>by unfold dx at V;simp at V) (λ_ _ _ _ _=>rfl) (λe=>by simp at e) (λe=>by simp at e)
 .exact h
def WsI.leave(h:WsI c n N ml x){i:Nat}(hi:i<n):WsI c n N ml (aE x i):=by
 unfold aE;split
 .rename_i h10;have O:=h.k i hi;obtain⟨p,hp⟩:=LE (sv x.U i);rw[<-hp]at O h10 ⊢;have I:(p.a=1/\(sv x.st.T i).pc=0)\/(p.a=0/\(sv x.st.T i).pc=10):=by unfold gU at O;omega
  obtain⟨pc,u,b,z⟩:=p;simp only at h10 I;subst h10;rcases I with⟨rfl,H⟩|⟨rfl,H⟩
  .exact h.upd (p':=⟨11,1,b,z⟩) hi h.m (λ_ _=>rfl) (.inr (.inl ⟨rfl,.inr (.inr (.inr (.inr (.inr rfl)))),H⟩)) (dF h hi ahK (λ_ _=>rfl)) (ew h hi ahK rfl) (λ_ _=>Int.le_refl _) (λV=> .inl (by rw[<-hp];exact⟨rfl,.inl rfl⟩)) (λ_ _ _ _ _=>rfl) (λe=>by simp at e) (λe=>by simp at e)
  .exact h.upd (p':=⟨12,0,b,z⟩) hi h.m (λ_ _=>rfl) (.inr (.inr (.inr (.inr (.inl ⟨rfl,.inr (.inr rfl),H⟩))))) (dF h hi ahK (λ_ _=>rfl)) (ew h hi ahK rfl) (λ_ _=>Int.le_refl _) (λV=>by unfold dx at V;simp at V) (λ_ _ _ _ _=>rfl) (λ_ e=>by simp at e) (λ_ e=>by simp at e)
 .exact h
def ku{P Q:Prop}(q:Q)(h:Kq Q->P:=by
    intro q_
    have hn:=(y.nd i hi).1
    have JB:∀j,j<n->c.node j<N:=λj hj=>(y.nd j hj).1
    have hk:=h.k i hi
    have Kd:=h.dr i hi
    have oth:(sv x.st.T i).pc=10->∀j,j<n->j≠i->¬Ef (sv x.U j):=λht j hj e hw=>e (h.one y hj hi (EF (h.k j hj) hw) ht)
    refine aj1 ?_
    intro Kl bA bW
    have bF:=hB.w.ld ahE (nuFl N)
    refine ajh ?_
    intro wA wW
    have lA:=qT h y l (z:=gaA (c.node i)) ⟨(eO hn).1,by have:=(eO hn).2;omega⟩ (ldW x.st.s.W (gaA (c.node i))+1) (s':=addA x.st.s (gaA (c.node i)) 1) (by rw[dT,wA])
    have lW:=qT h y l (z:=gaW (c.node i)) ⟨(bD hn).1,by have:=(bD hn).2;omega⟩ (ldW x.st.s.W (gaW (c.node i))+1) (s':=addA x.st.s (gaW (c.node i)) 1) (by rw[dT,wW])
    have lF:∀v:Int,(v=1\/v= -1)->_:=λv O=>qT h y l (z:=nuFl N) ⟨by unfold nuFl;omega,Int.le_refl _⟩ (ldW x.st.s.W (nuFl N)+v) (s':=addA x.st.s (nuFl N) v) (by rw[dT,IntWalk.i64_in _ ahE])
    refine ai4 ?_
    intro fA fW HA
    have HW:∀a,a<N->ldW x.st.s.W (gaW a)<=ldW (addA x.st.s (gaW (c.node i)) 1).W (gaW a):=λa _=>by
      exact abX
    have HF:∀v:Int,(v=1\/v= -1)->∀a,a<N->ldW x.st.s.W (gaW a)<=ldW (addA x.st.s (nuFl N) v).W (gaW a):=λv O a ha=>by rw[(lF v O).1,if_neg ahM];exact Int.le_refl _
    have SF:∀v:Int,(v=1\/v= -1)->∀q,q<nuFl N->ldW (addA x.st.s (nuFl N) v).W q=ldW x.st.s.W q:=λv O q hq=>by rw[(lF v O).1,if_neg ahE]
    have eL:(af x.st.s (nuFl N)).W=x.st.s.W:=aP _ _
    have mS:=h.m.step y hB ahE ahE hi
    have lS:=h.m.stepLow y hB ahE ahE hi
    have Js:∀q,q<=nuFl N->ldW (aj c x.st i).s.W q=ldW x.st.s.W q:=λq hq=>lS q aiF
    have tS:∀j,j≠i->sv (aj c x.st i).T j=sv x.st.T j:=λj hj=>nH h.m.v hi hj
    have aS:=lQ h.m.v hi
    unfold bh
    rw[<-hp]
    rw[<-hp]at hk Kd
    rw[if_neg ahF]
    revert hn JB hk Kd oth Kl bA bW bF wA wW lA lW lF fA fW HA HW HF SF eL mS lS Js tS aS
    exact q_.o):P:=h ⟨q⟩
def WsI.s1(h:WsI c n N ml x)(y:cH c n N ml)(l:NuL c N x.st.s.W)(hB:CoB c B x.st)(I:1100<=B)(Y:B<=1000000000000){i:Nat}(hi:i<n)(b z:Int)(hp:(⟨1,1,b,z⟩:Sp)=sv x.U i)(ht:(sv x.st.T i).pc=0):WsI c n N ml (bh c N x i):=by
 refine ku ?_;intro hn JB hk Kd oth Kl bA bW bF wA wW lA lW lF fA fW HA HW HF SF eL mS lS Js tS aS;show WsI c n N ml ⟨onA x.st (af x.st.s (nuFl N)),x.d,x.U.set i ⟨if ldW x.st.s.W (nuFl N)=0 then 2 else 1,1,b,z⟩⟩;by_cases H:ldW x.st.s.W (nuFl N)=0;.rw[if_pos H];exact h.upd (p':=⟨2,1,b,z⟩) hi (kW h y eL) (λ_ _=>rfl) (.inr (.inl ⟨rfl,.inr (.inl rfl),ht⟩)) (dF h hi ahK (λq _=>by show ldW (af _ _).W q=_;rw[eL])) (ew h hi ahK aio) (λa _=>by show _<=ldW (af _ _).W _;rw[eL];exact Int.le_refl _) (λV=>by unfold dx at V;simp at V) (λ_ _ _ _ _=>rfl) (λe=>by simp at e) (λe=>by simp at e)
 .rw[if_neg H];exact h.upd (p':=⟨1,1,b,z⟩) hi (kW h y eL) (λ_ _=>rfl) (.inr (.inl ⟨rfl,.inl rfl,ht⟩)) (dF h hi ahR (λq _=>by show ldW (af _ _).W q=_;rw[eL])) (ew h hi ahR aio) (λa _=>by show _<=ldW (af _ _).W _;rw[eL];exact Int.le_refl _) (λV=>by unfold dx at V;simp at V) (λ_ _ _ _ _=>rfl) (λe=>by simp at e) (λe=>by simp at e)
def WsI.s3(h:WsI c n N ml x)(y:cH c n N ml)(l:NuL c N x.st.s.W)(hB:CoB c B x.st)(I:1100<=B)(Y:B<=1000000000000){i:Nat}(hi:i<n)(b z:Int)(hp:(⟨3,1,b,z⟩:Sp)=sv x.U i)(ht:(sv x.st.T i).pc=0):WsI c n N ml (bh c N x i):=by
 refine ku ?_;intro hn JB hk Kd oth Kl bA bW bF wA wW lA lW lF fA fW HA HW HF SF eL mS lS Js tS aS;show WsI c n N ml ⟨onA x.st (af x.st.s (nuFl N)),x.d,x.U.set i ⟨if ldW x.st.s.W (nuFl N)=0 then 10 else 4,1,b,z⟩⟩;by_cases H:ldW x.st.s.W (nuFl N)=0;.rw[if_pos H];exact h.upd (p':=⟨10,1,b,z⟩) hi (kW h y eL) (λ_ _=>rfl) (.inr (.inl ⟨rfl,.inr (.inr (.inr (.inr (.inl rfl)))),ht⟩)) (dF h hi ahK (λq _=>by show ldW (af _ _).W q=_;rw[eL])) (ew h hi ahK aio) (λa _=>by show _<=ldW (af _ _).W _;rw[eL];exact Int.le_refl _) (λ_=> .inr (λj hj _ hw=>h.none H hj ⟨hw.1,.inr hw.2⟩)) (λ_ _ _ _ _=>rfl) (λe=>by simp at e) (λe=>by simp at e)
 .rw[if_neg H];exact h.upd (p':=⟨4,1,b,z⟩) hi (kW h y eL) (λ_ _=>rfl) (.inr (.inl ⟨rfl,.inr (.inr (.inr (.inl rfl))),ht⟩)) (dF h hi ahK (λq _=>by show ldW (af _ _).W q=_;rw[eL])) (ew h hi ahK aio) (λa _=>by show _<=ldW (af _ _).W _;rw[eL];exact Int.le_refl _) (λV=>by unfold dx at V;simp at V) (λ_ _ _ _ _=>rfl) (λe=>by simp at e) (λe=>by simp at e)
def WsI.s2(h:WsI c n N ml x)(y:cH c n N ml)(l:NuL c N x.st.s.W)(hB:CoB c B x.st)(H:1100<=B)(I:B<=1000000000000){i:Nat}(hi:i<n)(b z:Int)(hp:(⟨2,1,b,z⟩:Sp)=sv x.U i)(ht:(sv x.st.T i).pc=0):WsI c n N ml (bh c N x i):=by refine ku ?_;intro hn JB hk Kd oth Kl bA bW bF wA wW lA lW lF fA fW HA HW HF SF eL mS lS Js tS aS;show WsI c n N ml ⟨onA x.st (addA x.st.s (gaA (c.node i)) 1),x.d,x.U.set i ⟨3,1,b,z⟩⟩;exact h.upd (p':=⟨3,1,b,z⟩) hi lA.2 (λ_ _=>rfl) (.inr (.inl ⟨rfl,.inr (.inr (.inl rfl)),ht⟩)) (GH h JB hi ahK rfl lA.1) (ew h hi ahK (fA)) HA (λV=>by unfold dx at V;simp at V) (λ_ _ _ _ _=>rfl) (λe=>by simp at e) (λe=>by simp at e)
def WsI.s4(h:WsI c n N ml x)(y:cH c n N ml)(l:NuL c N x.st.s.W)(hB:CoB c B x.st)(H:1100<=B)(I:B<=1000000000000){i:Nat}(hi:i<n)(b z:Int)(hp:(⟨4,1,b,z⟩:Sp)=sv x.U i)(ht:(sv x.st.T i).pc=0):WsI c n N ml (bh c N x i):=by refine ku ?_;intro hn JB hk Kd oth Kl bA bW bF wA wW lA lW lF fA fW HA HW HF SF eL mS lS Js tS aS;show WsI c n N ml ⟨onA x.st (addA x.st.s (gaW (c.node i)) 1),x.d,x.U.set i ⟨1,1,b,z⟩⟩;exact h.upd (p':=⟨1,1,b,z⟩) hi lW.2 (λ_ _=>rfl) (.inr (.inl ⟨rfl,.inl rfl,ht⟩)) (AG h JB hi ahK rfl lW.1) (ew h hi ahK (fW)) HW (λV=>by unfold dx at V;simp at V) (λ_ _ _ _ _=>rfl) (λe=>by simp at e) (λe=>by simp at e)
def WsI.s11(h:WsI c n N ml x)(y:cH c n N ml)(l:NuL c N x.st.s.W)(hB:CoB c B x.st)(H:1100<=B)(I:B<=1000000000000){i:Nat}(hi:i<n)(b z:Int)(hp:(⟨11,1,b,z⟩:Sp)=sv x.U i)(ht:(sv x.st.T i).pc=0):WsI c n N ml (bh c N x i):=by refine ku ?_;intro hn JB hk Kd oth Kl bA bW bF wA wW lA lW lF fA fW HA HW HF SF eL mS lS Js tS aS;show WsI c n N ml ⟨onA x.st (addA x.st.s (gaW (c.node i)) 1),x.d,x.U.set i ⟨0,1,b,z⟩⟩;exact h.upd (p':=⟨0,1,b,z⟩) hi lW.2 (λ_ _=>rfl) (.inl ⟨rfl,ht⟩) (AG h JB hi ahK rfl lW.1) (ew h hi ahK (fW)) HW (λV=>by unfold dx at V;simp at V) (λ_ _ _ _ _=>rfl) (λe=>by simp at e) (λe=>by simp at e)
def WsI.s5(h:WsI c n N ml x)(y:cH c n N ml)(l:NuL c N x.st.s.W)(hB:CoB c B x.st)(I:1100<=B)(Y:B<=1000000000000){i:Nat}(hi:i<n)(b z:Int)(hp:(⟨5,0,b,z⟩:Sp)=sv x.U i)(ht:(sv x.st.T i).pc=0):WsI c n N ml (bh c N x i):=by
 refine ku ?_;intro hn JB hk Kd oth Kl bA bW bF wA wW lA lW lF fA fW HA HW HF SF eL mS lS Js tS aS;show WsI c n N ml ⟨bz c (onA x.st (addA x.st.s (nuFl N) (1))) i,x.d,x.U.set i ⟨7,0,b,z⟩⟩;have hm:=(lF _ (show(1:Int)=1\/(1:Int)= -1 by omega)).2.ask y hi;have hs:=gA c (onA x.st (addA x.st.s (nuFl N) (1))) i;have H:=ij (c:=c) (st:=(onA x.st (addA x.st.s (nuFl N) (1)))) (j:=i) (lF _ (show(1:Int)=1\/(1:Int)= -1 by omega)).2.v hi;have PX:(sv (bz c (onA x.st (addA x.st.s (nuFl N) (1))) i).T i).pc=1:=H.2 ht;refine h.upd (p':=⟨7,0,b,z⟩) hi hm (λj hj=>(ij (c:=c) (st:=(onA x.st (addA x.st.s (nuFl N) (1)))) (lF _ (show(1:Int)=1\/(1:Int)= -1 by omega)).2.v hi).1 hj) (.inr (.inr (.inr (.inl ⟨rfl,rfl,by omega,by omega⟩)))) ?_ ?_ (λa ha=>?_) (λV=>by unfold dx at V;simp at V) (λ_ _ _ _ _=>rfl) (λ_ e=>by simp at e) (λ_ e=>by simp at e);.show ∀a,a<N->ldW (bz c (onA x.st (addA x.st.s (nuFl N) (1))) i).s.W _=_;rw[hs];exact(dF h hi ahK (SF _ (show(1:Int)=1\/(1:Int)= -1 by omega)))
 .show ldW (bz c (onA x.st (addA x.st.s (nuFl N) (1))) i).s.W _=_;rw[hs];exact(I3 h hi ahK rfl (by show ldW (addA _ _ _).W _=_;rw[(lF _ (show(1:Int)=1\/(1:Int)= -1 by omega)).1,if_pos rfl]))
 .show _<=ldW (bz c (onA x.st (addA x.st.s (nuFl N) (1))) i).s.W _;rw[hs];exact HF _ (show(1:Int)=1\/(1:Int)= -1 by omega) a ha
def WsI.s12(h:WsI c n N ml x)(y:cH c n N ml)(l:NuL c N x.st.s.W)(hB:CoB c B x.st)(I:1100<=B)(Y:B<=1000000000000){i:Nat}(hi:i<n)(b z:Int)(hp:(⟨12,0,b,z⟩:Sp)=sv x.U i)(ht:(sv x.st.T i).pc=10):WsI c n N ml (bh c N x i):=by
 refine ku ?_;intro hn JB hk Kd oth Kl bA bW bF wA wW lA lW lF fA fW HA HW HF SF eL mS lS Js tS aS;show WsI c n N ml ⟨az (onA x.st (addA x.st.s (nuFl N) (-1))) i,x.d,x.U.set i ⟨13,0,b,z⟩⟩;have hm:=(lF _ (show(-1:Int)=1\/(-1:Int)= -1 by omega)).2.leave y hi;have hs:=fF (onA x.st (addA x.st.s (nuFl N) (-1))) i;have H:=eT (st:=(onA x.st (addA x.st.s (nuFl N) (-1)))) (j:=i) (lF _ (show(-1:Int)=1\/(-1:Int)= -1 by omega)).2.v hi;have PX:(sv (az (onA x.st (addA x.st.s (nuFl N) (-1))) i).T i).pc=11:=H.2 ht;refine h.upd (p':=⟨13,0,b,z⟩) hi hm (λj hj=>(eT (st:=(onA x.st (addA x.st.s (nuFl N) (-1)))) (lF _ (show(-1:Int)=1\/(-1:Int)= -1 by omega)).2.v hi).1 hj) (.inr (.inr (.inr (.inr (.inr ⟨rfl,rfl,by omega⟩))))) ?_ ?_ (λa ha=>?_) (λV=>by unfold dx at V;simp at V) (λ_ _ _ _ _=>rfl) (λ_ e=>by simp at e) (λ_ e=>by simp at e);.show ∀a,a<N->ldW (az (onA x.st (addA x.st.s (nuFl N) (-1))) i).s.W _=_;rw[hs];exact(dF h hi ahK (SF _ (show(-1:Int)=1\/(-1:Int)= -1 by omega)))
 .show ldW (az (onA x.st (addA x.st.s (nuFl N) (-1))) i).s.W _=_;rw[hs];exact(Fb h hi ahK rfl (by show ldW (addA _ _ _).W _=_;rw[(lF _ (show(-1:Int)=1\/(-1:Int)= -1 by omega)).1,if_pos rfl]))
 .show _<=ldW (az (onA x.st (addA x.st.s (nuFl N) (-1))) i).s.W _;rw[hs];exact HF _ (show(-1:Int)=1\/(-1:Int)= -1 by omega) a ha
def WsI.s7(h:WsI c n N ml x)(y:cH c n N ml)(l:NuL c N x.st.s.W)(hB:CoB c B x.st)(JJ:1100<=B)(JM:B<=1000000000000){i:Nat}(hi:i<n)(b z:Int)(hp:(⟨7,0,b,z⟩:Sp)=sv x.U i)(ht:0<(sv x.st.T i).pc/\(sv x.st.T i).pc<10):WsI c n N ml (bh c N x i):=by
 refine ku ?_;intro hn JB hk Kd oth Kl bA bW bF wA wW lA lW lF fA fW HA HW HF SF eL mS lS Js tS aS;have a1:=aS.1 ht;show WsI c n N ml ⟨aj c x.st i,if bo (sv x.st.T i) (sv (aj c x.st i).T i)then dP x.d N false else x.d,x.U.set i ⟨if bo (sv x.st.T i) (sv (aj c x.st i).T i)then 9 else 7,0,b,z⟩⟩;rw[a1.2];by_cases H:(sv (aj c x.st i).T i).pc=10;.rw[decide_eq_true H];refine h.upd (p':=⟨9,0,b,z⟩) (d':=dP x.d N false) hi mS tS (.inr (.inr (.inr (.inr (.inl ⟨rfl,.inl rfl,H⟩))))) (dF h hi ahK (λq hq=>Js q ahE)) (ew h hi ahK (Js _ (Int.le_refl _))) (λa ha=>by rw[Js _ ahM];exact Int.le_refl _) (λV=>by unfold dx at V;simp at V) (λj hj e h0 h9=>?_) (λ_ _=>⟨⟨rfl,rfl,by show 1<=N;omega,rfl⟩,λe=>by simp[dP]at e,λj hj _=>Nat.zero_le _⟩) (λ_ e=>by simp at e);have h2:=(EF (h.k j hj) ⟨h0,.inl h9⟩:_);have Y:=mS.one y hj hi (by rw[tS j e];omega) ahE;exact absurd Y e
 .rw[decide_eq_false H];exact h.upd (p':=⟨7,0,b,z⟩) hi mS tS (.inr (.inr (.inr (.inl ⟨rfl,rfl,by have I:=a1.1;omega,by have I:=a1.1;omega⟩)))) (dF h hi ahR (λq hq=>Js q ahE)) (ew h hi ahR (Js _ (Int.le_refl _))) (λa ha=>by rw[Js _ ahM];exact Int.le_refl _) (λV=>by unfold dx at V;simp at V) (λ_ _ _ _ _=>rfl) (λ_ e=>by simp at e) (λ_ e=>by simp at e)
def WsI.s13(h:WsI c n N ml x)(y:cH c n N ml)(l:NuL c N x.st.s.W)(hB:CoB c B x.st)(I:1100<=B)(Y:B<=1000000000000){i:Nat}(hi:i<n)(b z:Int)(hp:(⟨13,0,b,z⟩:Sp)=sv x.U i)(ht:10<(sv x.st.T i).pc):WsI c n N ml (bh c N x i):=by
 refine ku ?_;intro hn JB hk Kd oth Kl bA bW bF wA wW lA lW lF fA fW HA HW HF SF eL mS lS Js tS aS;have a1:=aS.2 ht;show WsI c n N ml ⟨aj c x.st i,x.d,x.U.set i ⟨if bo (sv x.st.T i) (sv (aj c x.st i).T i)then 0 else 13,0,b,z⟩⟩;rw[a1.2];by_cases H:(sv (aj c x.st i).T i).pc=0;.rw[decide_eq_true H];exact h.upd (p':=⟨0,0,b,z⟩) hi mS tS (.inl ⟨rfl,H⟩) (dF h hi ahK (λq hq=>Js q ahE)) (ew h hi ahK (Js _ (Int.le_refl _))) (λa ha=>by rw[Js _ ahM];exact Int.le_refl _) (λV=>by unfold dx at V;simp at V) (λ_ _ _ _ _=>rfl) (λ_ e=>by simp at e) (λ_ e=>by simp at e)
 .rw[decide_eq_false H];exact h.upd (p':=⟨13,0,b,z⟩) hi mS tS (.inr (.inr (.inr (.inr (.inr ⟨rfl,rfl,by have a2:=a1.1;omega⟩))))) (dF h hi ahR (λq hq=>Js q ahE)) (ew h hi ahR (Js _ (Int.le_refl _))) (λa ha=>by rw[Js _ ahM];exact Int.le_refl _) (λV=>by unfold dx at V;simp at V) (λ_ _ _ _ _=>rfl) (λ_ e=>by simp at e) (λ_ e=>by simp at e)
def WsI.s9(h:WsI c n N ml x)(y:cH c n N ml)(l:NuL c N x.st.s.W)(hB:CoB c B x.st)(JJ:1100<=B)(JM:B<=1000000000000){i:Nat}(hi:i<n)(b z:Int)(hp:(⟨9,0,b,z⟩:Sp)=sv x.U i)(ht:(sv x.st.T i).pc=10):WsI c n N ml (bh c N x i):=by
 refine ku ?_;intro hn JB hk Kd oth Kl bA bW bF wA wW lA lW lF fA fW HA HW HF SF eL mS lS Js tS aS;obtain⟨⟨q1,Y,q3,q4⟩,q5,q6⟩:=Kd rfl rfl;have I:=gQ x.st.s x.d;have hs:=svS (show i<x.U.length by rw[h.lU];exact hi)
 have nr:∀H j,dx (sv (x.U.set i ⟨H,0,b,z⟩) j)->j≠i/\dx (sv x.U j):=λH j V=>by
  rw[hs]at V;split at V;.unfold dx at V;simp at V
  .rename_i e;exact⟨e,V⟩
 have go:∀(H:Int) (d':Dr),(H=9\/H=10)->(H=9->zl c n N d' x.st.s.W (x.U.set i ⟨H,0,b,z⟩))->(H=10->∀j,j<n->j≠i->¬dx (sv x.U j))->WsI c n N ml ⟨onA x.st (ai x.st.s x.d).1,d',x.U.set i ⟨H,0,b,z⟩⟩:=λH d' H' o9 Qx=>by
  refine h.upd (p':=⟨H,0,b,z⟩) hi (kW h y I) (λ_ _=>rfl) (.inr (.inr (.inr (.inr (.inl ⟨rfl,?_,ht⟩))))) (dF h hi ?_ (λq _=>by show ldW (ai _ _).1.W q=_;rw[I])) (ew h hi ?_ (by show ldW (ai _ _).1.W _=_;rw[I])) (λa _=>by show _<=ldW (ai _ _).1.W _;rw[I];exact Int.le_refl _) (λV=>by unfold dx at V;simp at V) (λj hj e h0 h9=>(Kl ht j hj e h0 h9).elim) (λ_ h9=>?_) (λ_ h10=>Qx h10)
  .rcases H' with rfl|rfl
   .exact .inl rfl
   .exact .inr (.inl rfl)
  .rw[<-hp,rq ahF,rq ahF]
  .rw[<-hp];rcases H' with rfl|rfl<;>rfl
  .show zl c n N d' (ai _ _).1.W _;rw[I];exact o9 h9
 show WsI c n N ml ⟨onA x.st (ai x.st.s x.d).1,(ai x.st.s x.d).2.1,x.U.set i ⟨if (ai x.st.s x.d).2.2=true then 10 else 9,0,b,z⟩⟩;by_cases MV:x.d.second=true
 .have e1:ai x.st.s x.d=(af x.st.s (gaA x.d.at_),dN x.st.s x.d):=by unfold ai;rw[q1,MV];rfl
  have e2:(ai x.st.s x.d).2=dN x.st.s x.d:=by rw[e1]
  rw[e2];unfold dN;by_cases O:ldW x.st.s.W (gaA x.d.at_)=x.d.o
  .rw[if_neg (by simpa using O)];have hg:=h.g x.d.at_ q3;have VF:=q5 MV;have Vc:gO c n x.U x.d.at_=0:=by omega
   have MA:∀j,j<n->dx (sv x.U j)->c.node j≠x.d.at_:=λj hj V e=>by
    have:0<gO c n x.U x.d.at_:=jw (P:=λj=>decide (c.node j=x.d.at_)&&fB (sv x.U j)) hj (by
     simp only[Bool.and_eq_true,decide_eq_true_eq]
     exact⟨e,DT ⟨V.1,.inr (.inr V.2)⟩⟩)
    omega
   by_cases NV:x.d.at_+1=x.d.lim;.rw[if_pos NV];refine go 10 _ (.inr rfl) (λe=>by simp at e) (λ_ j hj e V=>?_);have h1:=q6 j hj V;have h2:=MA j hj V;have h3:=JB j hj;omega
   .rw[if_neg NV];refine go 9 _ (.inl rfl) (λ_=>⟨⟨q1,Y,by show x.d.at_+1<N;omega,q4⟩,λe=>by simp at e,λj hj V=>?_⟩) (λe=>by simp at e);exact acq
  .rw[if_pos O,if_neg (by rw[Y];decide)];exact go 9 _ (.inl rfl) (λ_=>⟨⟨q1,Y,q3,q4⟩,λe=>by simp at e,λj hj V=>q6 j hj (nr 9 j V).2⟩) (λe=>by simp at e)
 .refine ajI ?_;intro e1 e2;exact go 9 _ (.inl rfl) (λ_=>⟨⟨q1,Y,q3,q4⟩,λ_=>Int.le_refl _,λj hj V=>q6 j hj (nr 9 j V).2⟩) (λe=>by simp at e)
def WsI.step(h:WsI c n N ml x)(y:cH c n N ml)(l:NuL c N x.st.s.W)(hB:CoB c B x.st)(V:1100<=B)(Y:B<=1000000000000){i:Nat}(hi:i<n):WsI c n N ml (bh c N x i):=by
 have hk:=h.k i hi;obtain⟨p,I⟩:=LE (sv x.U i);rw[<-I]at hk;by_cases O:p.pc=0\/p.pc=10;.unfold bh;rw[<-I,if_pos O];exact h
 unfold gU at hk;obtain⟨pc,u,b,z⟩:=p;simp only at hk O;rcases hk with⟨q1,q2⟩|⟨rfl,q2,H⟩|⟨rfl,rfl,H⟩|⟨rfl,rfl,H⟩|⟨rfl,q2,H⟩|⟨rfl,rfl,H⟩
 .exact absurd (.inl q1) O
 .rcases q2 with rfl|rfl|rfl|rfl|rfl|rfl
  .exact h.s1 y l hB V Y hi b z I H
  .exact h.s2 y l hB V Y hi b z I H
  .exact h.s3 y l hB V Y hi b z I H
  .exact h.s4 y l hB V Y hi b z I H
  .exact absurd (.inr rfl) O
  .exact h.s11 y l hB V Y hi b z I H
 .exact h.s5 y l hB V Y hi b z I H
 .exact h.s7 y l hB V Y hi b z I H
 .rcases q2 with rfl|rfl|rfl
  .exact h.s9 y l hB V Y hi b z I H
  .exact absurd (.inr rfl) O
  .exact h.s12 y l hB V Y hi b z I H
 .exact h.s13 y l hB V Y hi b z I H
end
end
section
open Go Go.RowKit
section
variable{c:CoC}{L:Nat}{x:Nu}{st:Co}{B:Int}{o:Nat}
def zg(h:bK c n L B o x.st)(k:kG c n N L)(hB:1100<=B)(Kc:B<=1000000000000){i:Nat}(hi:i<n)(p:Sp)(hf:p.a≠1->p.pc=12->1<=ldW x.st.s.W (nuFl N)):bK c n L (B+4) (o+1) (iC c N x i p).1:=by
 refine ajm ?_;intro Ln NY JA;have Q1:∀{st'},bK c n L (B+2) (o+1) st'->bK c n L (B+4) (o+1) (bz c st' i):=λ{st'} q=>by exact abY
 have V:∀{st'},bK c n L (B+2) (o+1) st'->bK c n L (B+4) (o+1) (az st' i):=λ{st'} q=>by exact abZ
 have I:bK c n L (B+4) (o+1) (onA x.st (ai x.st.s x.d).1):=h.on ahE ((h.bd.w.mono ahE).same (gQ _ _)) (uU _ _);have Y:1<=ldW x.st.s.W (nuFl N)->bK c n L (B+2) (o+1) (onA x.st (addA x.st.s (nuFl N) (-1))):=λhq=>h.on ahE ((h.bd.w.mono ahE).st (nuFl N) (ldW x.st.s.W (nuFl N)+ -1) (by have:=(h.bd.w.ld ahE (nuFl N)).2;omega) (by rw[dT,IntWalk.i64_in _ (by have:=(h.bd.w.ld ahE (nuFl N)).2;omega)])) (kY _ _ _);unfold iC;split
 .split;.exact(NY _).mono ahE
  split;.exact ab0
  split;.exact(NY _).mono ahE
  split;.exact ab0
  .exact ab0
 rename_i H;split;.exact Q1 (Ln _)
 split;.exact ab1
 split;.exact I
 split;.rename_i Xy;exact V (Y (hf H Xy))
 .exact ab1
def zh(h:bK c n L B o x.st)(k:kG c n N L)(I:1100<=B)(H:B<=1000000000000){i:Nat}(hi:i<n)(O:(sv x.U i).a≠1->(sv x.U i).pc=12->1<=ldW x.st.s.W (nuFl N)):bK c n L (B+4) (o+1) (bh c N x i).st:=by
 unfold bh;split;.exact h.up ahE ahE
 .exact zg h k I H hi _ O
def tW(x:Nu)(i:Nat)(r:Bool):(fb x i r).st=x.st:=by unfold fb;split<;>rfl
def WsI.f12(h:WsI c n N ml x){i:Nat}(hi:i<n):(sv x.U i).a≠1->(sv x.U i).pc=12->1<=ldW x.st.s.W (nuFl N):=λV H=>by
 have I:=h.k i hi
 have O:(sv x.U i).a=0:=by unfold gU at I;omega
 apply Classical.byContradiction
 intro Y
 have hc:=h.fl
 exact h.none ahE hi ⟨O,.inr (.inr (.inr H))⟩
structure WsS(c:CoC)(n N L:Nat)(ml:Nat->Nat)(B:Int)(x:Nu):Prop where
 i:WsI c n N ml x
 ok:bK c n L B x.st.s.ops x.st
def rO(c:CoC)(N:Nat)(x:Nu)(kd i:Int):Nu:=
 if okI x.U i then if kd=0 then bh c N x i.toNat else if kd=1 then fb x i.toNat false else if kd=2 then aE x i.toNat else if kd=3 then fb x i.toNat true else x else x
def WsS.act(h:WsS c n N L ml B x)(k:NuK c n N L ml)(I:1100<=B)(H:B<=1000000000000)(kd i:Int):WsS c n N L ml (B+4) (rO c N x kd i)/\(rO c N x kd i).st.s.ops<=x.st.s.ops+1/\(kd≠0->(rO c N x kd i).st.s.ops=x.st.s.ops):=by
  have same:WsS c n N L ml (B+4) x:=⟨h.i,h.ok.mono ahE⟩;unfold rO;split
  . rename_i O;have hi:i.toNat<n:=(by obtain⟨V,h1⟩:=O;have:=h.i.lU;omega);split;. rename_i k0;have q:=zh h.ok k.w I H hi (h.i.f12 hi);refine⟨⟨h.i.step k.y ⟨k.tg,by rw[h.ok.len];exact k.len⟩ h.ok.bd I H hi,⟨q.bd,q.v,q.len,Nat.le_refl _⟩⟩,q.ops,λe=>absurd k0 e⟩
    split;. have e:=tW x i.toNat false;refine⟨⟨h.i.ask hi false,by rw[e];exact same.ok⟩,by rw[e];omega,λ_=>by rw[e]⟩
    split;. have e:=kE x i.toNat;refine⟨⟨h.i.leave hi,by rw[e];exact same.ok⟩,by rw[e];omega,λ_=>by rw[e]⟩
    split;. have e:=tW x i.toNat true;refine⟨⟨h.i.ask hi true,by rw[e];exact same.ok⟩,by rw[e];omega,λ_=>by rw[e]⟩
    . exact⟨same,by omega,λ_=>rfl⟩
  . exact⟨same,by omega,λ_=>rfl⟩
end
section
variable{kg kl par:Nat}{bud:Int}{s:Ar}
def Jo(hc:a8 P T=0)(Y:1<=kg/\kg<=5)(V:1<=kl/\kl<=5)(hp:1<=par/\par<=1024)(hs:s.W=[]):WsS (fh kg kl par bud P T (smA s (ac P).length)) T.length (ac P).length (bC kg kl par P T (smA s (ac P).length)).s.W.length (mtQ P T) 1100 ⟨bC kg kl par P T (smA s (ac P).length),dr0,List.replicate T.length Sp.zero⟩/\(bC kg kl par P T (smA s (ac P).length)).s.ops<=s.ops+1100:=by
  refine ajL ?_;intro hz NP mP;have hw:∀y:Int,y<=((smA s (ac P).length).W.length:Int)->ldW (bC kg kl par P T (smA s (ac P).length)).s.W y=0:=λy hy=>by exact ab2
  have h:∀i,sv (List.replicate T.length Sp.zero) i=Sp.zero:=svR _;refine⟨⟨⟨wP hc Y V hp NP,by simp,λi hi=> .inl ⟨?_,?_⟩,λa O=>?_,?_,λi hi h0 I=>?_,λi hi h0 I=>?_⟩,⟨mP.bd,mP.v,mP.len,Nat.le_refl _⟩⟩,mP.ops⟩;. show(sv (List.replicate T.length Sp.zero) i).pc=0;rw[h];rfl
  . show(sv (List.replicate T.length Sp.zero) i).pc=0;rw[h];rfl
  . have hc0:gO (fh kg kl par bud P T (smA s (ac P).length)) T.length (List.replicate T.length Sp.zero) a=0:=(by unfold gO jc;refine List.countP_eq_zero.2 (λj _=>?_);rw[h];simp[fB,Sp.zero]);show ldW _ _=ldW _ _+((gO _ _ (List.replicate T.length Sp.zero) a:Nat):Int);rw[hc0];have g1:=eO O;have g2:=bD O;unfold nuFl at g1 g2;have hl:=hz.2;rw[hw _ aia,hw _ aia];rfl
  . have hc0:lH T.length (List.replicate T.length Sp.zero)=0:=(by unfold lH jc;refine List.countP_eq_zero.2 (λj _=>?_);rw[h];simp[wrC,Sp.zero]);show ldW _ _=((lH _ (List.replicate T.length Sp.zero):Nat):Int);rw[hc0];have hl:=hz.2;rw[hw _ (by rw[hl];unfold nuFl;omega)];rfl
  . have H:(sv (List.replicate T.length Sp.zero) i).pc=9:=I;rw[h]at H;simp[Sp.zero]at H
  . have H:(sv (List.replicate T.length Sp.zero) i).pc=10:=I;rw[h]at H;simp[Sp.zero]at H
end
end
end Go.Proofs.YtglokdbiggbkjaaGreat
