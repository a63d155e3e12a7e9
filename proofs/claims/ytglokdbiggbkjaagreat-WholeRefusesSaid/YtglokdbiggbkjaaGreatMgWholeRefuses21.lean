/- Joined texts. -/
import Derived.Test.YtglokdbiggbkjaaGreatMgWholeRefuses0
import Derived.Test.YtglokdbiggbkjaaGreatMgWholeRefuses2
import Derived.Test.YtglokdbiggbkjaaGreatMgWholeRefuses7
import Derived.Test.YtglokdbiggbkjaaGreatMgWholeRefuses14
import Derived.Test.YtglokdbiggbkjaaGreatMgWholeRefuses20
set_option linter.unusedVariables false
set_option linter.unusedSimpArgs false
set_option linter.defProp false
set_option maxRecDepth 100000
set_option maxHeartbeats 16000000
open Go.Proofs.Tryz
namespace Go.Proofs.YtglokdbiggbkjaaGreat
open Go.IntKind(i64)
open Go.Value(int bool slice agg tuple pointer)
open Go.Ending(returned)
open Go.Obj(cells)
variable{w' w0:World}{P T:List Int}{n N j L:Nat}{ml:Nat->Nat}{b C BB:Int}{r:Bool}{Q:Prop}
section
open Go.RowKit
section
variable{B BC:Nat->Prop}{w:World}{a g:Nat}{X:SmX}{c:CoC}{st st':Co}{d d':Dr}{U:List Sp}{s':Ar}
def II(h:av 330 B BC w a g X c P T st d U):E 366 #[↑X.l] w λe w'=>e= returned (J T.length)/\w=w':=by have c6:=h.cs.2.2.2.2.2.2;clear h;go_enter func366,ntmps366;exact aaa
def AK(h:av 330 B BC w a g X c P T st d U)(i:Int)(r:Bool)(V:r=decide (okI U i)):E 367 #[↑X.l,J i] w λe w'=>e= returned (.bool r)/\w=w':=by
 have HT:=qh (II h);have Jy:=h.lU;clear h;by_cases h0:0<=i
 .by_cases h1:i<T.length;.refine aka ?_;intro e;subst e;clear V;go_enter func367,ntmps367;exact aad
  .have e:r=false:=(by rw[V];exact decide_eq_false (λk=>h1 aiE));subst e;clear V;go_enter func367,ntmps367;exact abM
 .have e:r=false:=by rw[V];exact decide_eq_false (λk=>h0 k.1)
  subst e;clear V;go_enter func367,ntmps367;exact aaa
def oQ(h:av 330 B BC w a g X c P T st d U)(i:Int):E 364 #[↑X.l,J i] w λe w'=>e= returned (aF (getS U i))/\Below w.heap.size w w':=by
  refine ajr ?_;intro I H Ju Jx Jy;by_cases O:okI U i;. have V:=qh (AK I i true (decide_eq_true O).symm);have hp:=dG O;obtain⟨p,i'⟩:=LE (getS U i);rw[<-i']at hp ⊢;have c6:=h.cs.2.2.2.2.2.2;refine ai1 ?_;intro a0 a1 a2 a3;obtain⟨Y,h1⟩:=id O;rw[Jy]at h1;obtain⟨n,rfl⟩:=Int.eq_ofNat_of_zero_le Y;simp only[Int.toNat_natCast]at a0 a1 a2 a3;have t2:¬(n:Int)<0:=(by omega);have t4:n<T.length:=(by omega);clear h I hp i' Y h1 O Jy;go_enter func364,ntmps364;go_wp2_with (go_at_call 367;refine V.o.mono ?_;rintro e w' ⟨rfl,rfl⟩);exact bodyPost_ret (results_cell_row ahI _ _ w.heap.size 113 _ (0,0) _ ahI (heap_alloc_new w _) Tryz.underlying113 rfl ahH) rfl ⟨rfl,(Below.refl _ _).alloc (Nat.le_refl _) _⟩
  . have V:=qh (AK I i false (decide_eq_false O).symm);rw[dz O];clear h I O Jy;go_enter func364,ntmps364;go_wp2_with (go_at_call 367;refine V.o.mono ?_;rintro e w' ⟨rfl,rfl⟩);exact bodyPost_ret (results_cell_row ahI _ _ w.heap.size 113 _ (0,0) _ ahI (heap_alloc_new w _) Tryz.underlying113 rfl ahH) rfl ⟨rfl,(Below.refl _ _).alloc (Nat.le_refl _) _⟩
end
end
section
open Go
def jc(n:Nat)(P:Nat->Bool):Nat:=(List.range n).countP P
def lM(n:Nat)(P:Nat->Bool):jc (n+1) P=jc n P+if P n then 1 else 0:=by unfold jc;rw[List.range_succ,List.countP_append,List.countP_singleton]
def jv{P Q:Nat->Bool}{i:Nat}(H:∀j,j≠i->Q j=P j):∀n,i<n->jc n Q+(if P i then 1 else 0)=jc n P+(if Q i then 1 else 0)
 |0,h=>by omega
 |n+1,h=>by
  rw[lM,lM];by_cases e:i=n;.subst e;have:jc i Q=jc i P:=(by unfold jc;refine List.countP_congr (λx O=>?_);rw[H x (by have:=List.mem_range.1 O;omega)]);rw[this];omega
  .have V:=jv (P:=P) (Q:=Q) H n ahE;rw[H n (λI=>e I.symm)];omega
def jw{P:Nat->Bool}:∀{n i:Nat},i<n->P i=true->0<jc n P
 |0,i,h,_=>by omega
 |n+1,i,h,H=>by
  rw[lM];by_cases e:i=n;.subst e;rw[H];simp
  .have:=jw (n:=n) (P:=P) (i:=i) ahE H;omega
section
variable{c:CoC}{st st':Co}
def Ch(k n:Nat){m:Int}(h:1<=m):0<=szI k n m:=by unfold szI;(repeat' split)<;>omega
def CoM.low(h:CoM c n N ml st)(y:cH c n N ml){s':Ar}(V:s'.W.length=st.s.W.length)(I:∀x,c.tg<=x->ldW s'.W x=ldW st.s.W x)(O:CoV c n {st with s:=s'}):CoM c n N ml {st with s:=s'}:=by
 have hz:=Ch c.kg N h.fG.m1;have hc:∀a,a<N->ldW s'.W (c.cw a)=ldW st.s.W (c.cw a):=λa H=>I _ (by have:=y.gl a H;have:=y.cw a H;have:=y.sz a H;omega);refine⟨h.fG.frame V (λx h1 _=>I x h1),λa H=>(h.fL a H).frame V (λx h1 _=>I x (by have:=y.gl a H;omega)),h.lL,λa H=>by show 1<=_/\_<=(s'.W.length:Int);rw[V];exact h.lW a H,O,λj Y=>?_,λa H hq=>?_⟩;.show StP _ _ (ldW s'.W _);rw[hc _ (y.nd j Y).1];exact h.sj j Y
 .show FrP _ (ldW s'.W _);rw[hc a H];exact h.fr a H hq
def CoV.ars(h:CoV c n st)(s':Ar):CoV c n {st with s:=s'}:=⟨h.g,h.l,h.k,h.lT,h.lG,h.lL⟩
def CoM.stepLow(h:CoM c n N ml st)(y:cH c n N ml){B:Int}(O:CoB c B st)(JJ:1<=B)(I:B<=10000000000000){i:Nat}(hi:i<n):∀x,x<c.tg->ldW (aj c st i).s.W x=ldW st.s.W x:=by
  intro x hx;have H:=y.nd i hi;have hz:=Ch c.kg N h.fG.m1;have g1:=y.gl _ H.1;have c1:=y.cw _ H.1;have s1:=y.sz _ H.1;have LS:=((h.fL _ H.1).step y.k.2 O.w ahE I H.2 (h.v.lpc hi)).2 x ahE;have Y:=(h.fG.step y.k.1 O.w ahE I H.1 (h.v.gpc hi)).2 x ahE;have V:∀u,ldW (stW st.s.W (c.cw (c.node i)) u) x=ldW st.s.W x:=λu=>by rw[gu (aR.2 (h.lW _ H.1)),if_neg ahE]
  have JU:∀p,ldW (cX c st i p).1.W x=ldW st.s.W x:=λp=>by
    unfold cX xX pP
    (repeat' split)<;>(try dsimp only)<;>first
      | rfl
      | exact LS
      | exact Y
      | (rw[aP])
      | (rw[aw];exact V _)
      | (unfold cB
         (repeat' split)<;>first|rfl|rw[aP])
  unfold aj;split;. rfl
  . exact JU _
def gA(c:CoC)(st:Co)(i:Nat):(bz c st i).s=st.s:=by unfold bz;split<;>rfl
def fF(st:Co)(i:Nat):(az st i).s=st.s:=by unfold az;split<;>rfl
def nH(h:CoV c n st){i:Nat}(hi:i<n)(H:j≠i):sv (aj c st i).T j=sv st.T j:=by
 unfold aj;split;.rfl
 .show sv (st.T.set i _) j=_;rw[svS (by have:=h.lT;omega),if_neg H]
def ij(h:CoV c n st){i:Nat}(hi:i<n):(j≠i->sv (bz c st i).T j=sv st.T j)/\((sv st.T i).pc=0->(sv (bz c st i).T i).pc=1):=by
 unfold bz;have hl:i<st.T.length:=by have:=h.lT;omega
 constructor;.exact abN
 .intro H;rw[if_pos H];show(sv (st.T.set i _) i).pc=1;rw[svS hl,if_pos rfl]
def eT(h:CoV c n st){i:Nat}(hi:i<n):(j≠i->sv (az st i).T j=sv st.T j)/\((sv st.T i).pc=10->(sv (az st i).T i).pc=11):=by
 unfold az;have hl:i<st.T.length:=by have:=h.lT;omega
 constructor;.exact abN
 .intro H;rw[if_pos H];show(sv (st.T.set i _) i).pc=11;rw[svS hl,if_pos rfl]
def lQ(h:CoV c n st){i:Nat}(hi:i<n):(0<(sv st.T i).pc/\(sv st.T i).pc<10->(0<(sv (aj c st i).T i).pc/\(sv (aj c st i).T i).pc<=10)/\bo (sv st.T i) (sv (aj c st i).T i)=decide ((sv (aj c st i).T i).pc=10))/\
    (10<(sv st.T i).pc->((sv (aj c st i).T i).pc=0\/10<(sv (aj c st i).T i).pc)/\bo (sv st.T i) (sv (aj c st i).T i)=decide ((sv (aj c st i).T i).pc=0)):=by
  have hl:i<st.T.length:=by have:=h.lT;omega
  have I:=h.k i hi;obtain⟨p,Y⟩:=LE (sv st.T i);have e:¬(p.pc=0\/p.pc=10)->sv (aj c st i).T i=(cX c st i p).2.2.2:=λV=>by unfold aj;rw[<-Y,if_neg V];show sv (st.T.set i _) i=_;rw[svS hl,if_pos rfl]
  rw[<-Y]at I ⊢;refine⟨λhc=>?_,λhc=>?_⟩
  . rw[e ahE]
    have H:0<(cX c st i p).2.2.2.pc/\(cX c st i p).2.2.2.pc<=10:=by
      obtain⟨pc,u,b,z⟩:=p;have O:pc=1\/pc=2\/pc=3\/pc=4:=(by unfold di at I;simp only at I hc;omega);rcases O with rfl|rfl|rfl|rfl
      . rw[mv1];simp only;split<;>simp
      . rw[mv2];split<;>simp
      . rw[mv3];simp only;split<;>simp
      . rw[mv4];simp
    exact⟨H,qx hc.1 hc.2 H.1⟩
  . rw[e ahE]
    have H:(cX c st i p).2.2.2.pc=0\/10<(cX c st i p).2.2.2.pc:=by
      obtain⟨pc,u,b,z⟩:=p;have O:pc=11\/pc=12\/pc=13\/pc=14\/pc=15\/pc=16:=(by unfold di at I;simp only at I hc;omega);rcases O with rfl|rfl|rfl|rfl|rfl|rfl
      . rw[Fw];simp only;split<;>simp
      . rw[Fy];simp only;split<;>simp
      . rw[Fz];simp
      . rw[FA];simp
      . rw[FB];split<;>simp
      . rw[FC];simp only;split<;>simp
    exact⟨H,ny hc H⟩
end
end
section
open Go
variable{p':Sp}{s':Ar}{W':List Int}
structure Nu where
 st:Co
 d:Dr
 U:List Sp
def nuFl(N:Nat):Int:=2*(N:Int)+1
def onA(st:Co)(s:Ar):Co:={st with s:=s}
def iy(c:CoC)(N:Nat)(x:Nu)(i:Nat)(pc:Int):Co×Dr×Bool:=
 if pc=1 then(onA x.st (addA x.st.s (gaA (c.node i)) 1),x.d,true)
 else if pc=3 then(bz c (onA x.st (addA x.st.s (gaW (c.node i)) 1)) i,x.d,true)
 else if pc=5 then(az (onA x.st (addA x.st.s (gaA (c.node i)) 1)) i,x.d,true)
 else if pc=8 then(onA x.st (ae x.st.s (nuFl N) 1),dP x.d N false,true)
 else if pc=9 then(onA x.st (ai x.st.s x.d).1,(ai x.st.s x.d).2.1,(ai x.st.s x.d).2.2)
 else if pc=11 then(onA x.st (addA x.st.s (gaW (c.node i)) 1),x.d,true)
 else if pc=12 then(az (onA x.st (ae x.st.s (nuFl N) 0)) i,x.d,true)
 else(aj c x.st i,x.d,bo (sv x.st.T i) (sv (aj c x.st i).T i))
def rh(pc:Int):Int:=if pc=6\/pc=9 then 10 else if pc=11\/pc=13 then 0 else pc+1
def nuTo(p:Sp)(r:Bool):Sp:=if r then {p with pc:=rh p.pc} else p
def cD(c:CoC)(N:Nat)(x:Nu)(i:Nat):Nu:=
 if (sv x.U i).pc=0\/(sv x.U i).pc=10 then x
 else if (sv x.U i).pc=2 then⟨onA x.st (af x.st.s (nuFl N)),x.d,x.U.set i {(sv x.U i)with pc:=if ldW x.st.s.W (nuFl N)=0 then 10 else 3}⟩
 else⟨(iy c N x i (sv x.U i).pc).1,(iy c N x i (sv x.U i).pc).2.1,x.U.set i (nuTo (sv x.U i) (iy c N x i (sv x.U i).pc).2.2)⟩
def cE(c:CoC)(x:Nu)(i:Nat)(read:Bool):Nu:=
 if (sv x.U i).pc=0 then if read then {x with U:=x.U.set i ⟨1,1,0,0⟩} else {x with st:=bz c x.st i,U:=x.U.set i ⟨7,0,0,0⟩} else x
def aE(x:Nu)(i:Nat):Nu:=if (sv x.U i).pc=10 then {x with U:=x.U.set i {(sv x.U i)with pc:=12-(sv x.U i).a}} else x
def jr(p:Sp):Bool:=decide (p.a=1/\(p.pc=2\/p.pc=3\/p.pc=6\/p.pc=10\/p.pc=11))
def fj(p:Sp):Prop:=p.a=1/\(p.pc=6\/p.pc=10\/p.pc=11)
def wrP(p:Sp):Prop:=p.a=0/\(p.pc=9\/p.pc=10\/p.pc=12)
def gS(p t:Sp):Prop:=
 (p.pc=0/\t.pc=0)\/(p.a=1/\(p.pc=1\/p.pc=2\/p.pc=3\/p.pc=10\/p.pc=11)/\t.pc=0)\/(p.a=1/\p.pc=4/\0<t.pc/\t.pc<10)\/(p.a=1/\p.pc=5/\t.pc=10)\/(p.a=1/\p.pc=6/\10<t.pc)\/
  (p.a=0/\p.pc=7/\0<t.pc/\t.pc<10)\/(p.a=0/\(p.pc=8\/p.pc=9\/p.pc=10\/p.pc=12)/\t.pc=10)\/(p.a=0/\p.pc=13/\10<t.pc)
def ky(c:CoC)(n:Nat)(U:List Sp)(a:Nat):Nat:=jc n (λj=>decide (c.node j=a)&&jr (sv U j))
def DrI(c:CoC)(n N:Nat)(d:Dr)(W:List Int)(U:List Sp):Prop:=
 (d.busy=true/\d.once=false/\d.at_<N/\d.lim=N)/\(d.second=true->d.o<=ldW W (gaW d.at_))/\∀j,j<n->fj (sv U j)->d.at_<=c.node j
structure NuI(c:CoC)(n N:Nat)(ml:Nat->Nat)(x:Nu):Prop where
 m:CoM c n N ml x.st
 lU:x.U.length=n
 k:∀i,i<n->gS (sv x.U i) (sv x.st.T i)
 g:∀a,a<N->ldW x.st.s.W (gaA a)=ldW x.st.s.W (gaW a)+(ky c n x.U a:Int)
 fl:∀i,i<n->wrP (sv x.U i)->ldW x.st.s.W (nuFl N)≠0
 dr:∀i,i<n->(sv x.U i).a=0->(sv x.U i).pc=9->DrI c n N x.d x.st.s.W x.U
 hd:∀i,i<n->(sv x.U i).a=0->(sv x.U i).pc=10->∀j,j<n->¬fj (sv x.U j)
section
variable{c:CoC}{x x':Nu}
def NuI.safe(h:NuI c n N ml x)(y:cH c n N ml){i:Nat}(hi:i<n)(h1:(sv x.U i).pc=10)(H:(sv x.U i).a=0)(hj:j<n)(I:(sv x.U j).pc=10):j=i/\(sv x.U j).a=0:=by
 have ki:=h.k i hi;have V:=h.k j hj;by_cases O:(sv x.U j).a=1;.exact absurd ⟨O,.inr (.inl I)⟩ (h.hd i hi H h1 j hj)
 .have t1:(sv x.st.T i).pc=10:=by unfold gS at ki;omega
  have t2:(sv x.st.T j).pc=10/\(sv x.U j).a=0:=by unfold gS at V;omega
  exact abO
def NuI.one(h:NuI c n N ml x)(y:cH c n N ml){i:Nat}(hi:i<n)(H:j<n)(h1:(sv x.st.T i).pc=10)(I:(sv x.st.T j).pc=10):i=j:=h.m.one y hi H ahE ahE
def Jn{p t:Sp}(h:gS p t)(hw:wrP p):t.pc=10:=by unfold gS at h;unfold wrP at hw;omega
def nE{U:List Sp}{i:Nat}(h:i<U.length)(hi:i<n)(p:Sp)(a:Nat):ky c n (U.set i p) a+(if c.node i=a/\jr (sv U i)=true then 1 else 0)=ky c n U a+(if c.node i=a/\jr p=true then 1 else 0):=by unfold ky;have:=jv (P:=λj=>decide (c.node j=a)&&jr (sv U j)) (Q:=λj=>decide (c.node j=a)&&jr (sv (U.set i p) j)) (i:=i) (λj H=>by rw[svS h,if_neg H]) n hi;simp only[Bool.and_eq_true,decide_eq_true_eq]at this;rw[svS h,if_pos rfl]at this;exact this
def NuI.upd(h:NuI c n N ml x){i:Nat}(hi:i<n){st':Co}{d':Dr}(hm:CoM c n N ml st')(hT:∀j,j≠i->sv st'.T j=sv x.st.T j)(hk:gS p' (sv st'.T i))(hg:∀a,a<N->ldW st'.s.W (gaA a)=ldW st'.s.W (gaW a)+(ky c n (x.U.set i p') a:Int))(Mc:∀j,j<n->j≠i->wrP (sv x.U j)->ldW st'.s.W (nuFl N)≠0)(S3:wrP p'->ldW st'.s.W (nuFl N)≠0)(hH:∀a,a<N->ldW x.st.s.W (gaW a)<=ldW st'.s.W (gaW a))(Lw:fj p'->fj (sv x.U i)\/∀j,j<n->j≠i->¬wrP (sv x.U j))(hd:∀j,j<n->j≠i->(sv x.U j).a=0->(sv x.U j).pc=9->d'=x.d)(od:p'.a=0->p'.pc=9->DrI c n N d' st'.s.W (x.U.set i p'))(oh:p'.a=0->p'.pc=10->∀j,j<n->j≠i->¬fj (sv x.U j)):NuI c n N ml ⟨st',d',x.U.set i p'⟩:=by
  refine akh ?_;intro hl;have hs:=svS hl p';refine⟨hm,by rw[List.length_set];exact h.lU,λj O=>?_,hg,λj O hw=>?_,λj O h0 h9=>?_,λj O h0 h10=>?_⟩
  . show gS (sv (x.U.set i p') j) (sv st'.T j);rw[hs];split;. rename_i e;rw[e];exact hk
    . rename_i e;rw[hT j e];exact h.k j O
  . have La:wrP (sv (x.U.set i p') j):=hw;rw[hs]at La;split at La;. exact S3 La
    . rename_i e;exact Mc j O e La
  . have H:(sv (x.U.set i p') j).a=0:=h0;have I:(sv (x.U.set i p') j).pc=9:=h9;rw[hs]at H I;by_cases e:j=i;. rw[if_pos e]at H I;exact od H I
    . rw[if_neg e]at H I;obtain⟨q1,q2,q3⟩:=h.dr j O H I;show DrI c n N d' st'.s.W (x.U.set i p');rw[hd j O e H I];refine⟨q1,λhq=>Int.le_trans (q2 hq) (hH _ q1.2.2.1),λk hk V=>?_⟩;rw[hs]at V;split at V
      . rename_i e2;rcases Lw V with h1|h1
        . rw[e2];exact q3 i hi h1
        . exact absurd ⟨H,.inl I⟩ (h1 j O e)
      . exact q3 k hk V
  . have H:(sv (x.U.set i p') j).a=0:=h0;have I:(sv (x.U.set i p') j).pc=10:=h10;rw[hs]at H I;intro k hk V;have Y:fj (sv (x.U.set i p') k):=V;rw[hs]at Y;by_cases e:j=i
    . rw[if_pos e]at H I;split at Y;. unfold fj at Y;omega
      . rename_i e2;exact oh H I k hk e2 Y
    . rw[if_neg e]at H I;split at Y
      . rcases Lw Y with h1|h1
        . exact h.hd j O H I i hi h1
        . exact h1 j O e ⟨H,.inr (.inl I)⟩
      . exact h.hd j O H I k hk Y
structure NuL(c:CoC)(N:Nat)(W:List Int):Prop where
 tg:c.tg=2*(N:Int)+2
 len:2*(N:Int)+1<=W.length
def eO{a:Nat}(h:a<N):1<=gaA a/\gaA a<nuFl N:=by unfold gaA nuFl;omega
def bD{a:Nat}(h:a<N):1<=gaW a/\gaW a<nuFl N:=by unfold gaW nuFl;omega
def uO(h:NuI c n N ml x)(y:cH c n N ml)(l:NuL c N x.st.s.W){z:Int}(hz:1<=z/\z<=nuFl N)(v:Int)(e:s'.W=stW x.st.s.W z v):(∀q,ldW s'.W q=if q=z then v else ldW x.st.s.W q)/\CoM c n N ml (onA x.st s'):=by exact abP
def Bm(h:NuI c n N ml x)(y:cH c n N ml)(e:s'.W=x.st.s.W):CoM c n N ml (onA x.st s'):=
 h.m.low y (by rw[e]) (λq _=>by rw[e]) (h.m.v.ars s')
def EV(h:NuI c n N ml x){i:Nat}(hi:i<n)(I:jr p'=jr (sv x.U i))(a:Nat):ky c n (x.U.set i p') a=ky c n x.U a:=by have:=nE (c:=c) (n:=n) (show i<x.U.length by rw[h.lU];exact hi) hi p' a;rw[I]at this;omega
def eA(h:NuI c n N ml x){i:Nat}(hi:i<n)(I:jr p'=jr (sv x.U i))(hw:∀q,q<nuFl N->ldW W' q=ldW x.st.s.W q):∀a,a<N->ldW W' (gaA a)=ldW W' (gaW a)+(ky c n (x.U.set i p') a:Int):=λa H=>by
 rw[hw _ (eO H).2,hw _ (bD H).2,EV h hi I a];exact h.g a H
def GC(h:NuI c n N ml x)(hn:∀j,j<n->c.node j<N){i:Nat}(hi:i<n)(h0:jr (sv x.U i)=false)(h1:jr p'=true)(hw:∀q,ldW W' q=if q=gaA (c.node i)then ldW x.st.s.W (gaA (c.node i))+1 else ldW x.st.s.W q):∀a,a<N->ldW W' (gaA a)=ldW W' (gaW a)+(ky c n (x.U.set i p') a:Int):=λa ha=>by
 have h2:=nE (c:=c) (n:=n) (show i<x.U.length by rw[h.lU];exact hi) hi p' a
 exact abQ
def Ep(h:NuI c n N ml x)(hn:∀j,j<n->c.node j<N){i:Nat}(hi:i<n)(h0:jr (sv x.U i)=true)(h1:jr p'=false)(hw:∀q,ldW W' q=if q=gaW (c.node i)then ldW x.st.s.W (gaW (c.node i))+1 else ldW x.st.s.W q):∀a,a<N->ldW W' (gaA a)=ldW W' (gaW a)+(ky c n (x.U.set i p') a:Int):=λa ha=>by
 have h2:=nE (c:=c) (n:=n) (show i<x.U.length by rw[h.lU];exact hi) hi p' a
 exact abR
end
end
section
open Go.RowKit
def kx(a b:Int):Bool:=decide (((a=0\/a=10)/\b≠a)\/(¬(a=0\/a=10)/\(b=0\/b=10)))
def bS{a:Int}(u0:(a==0)=false)(u1:(a==10)=false)(v1:(b==10)=true):true=kx a b:=by simp at u0 u1 v1;exact(decide_eq_true ahE).symm
def bU{a:Int}(u0:(a==0)=false)(u1:(a==10)=false)(v2:(b==0)=true):true=kx a b:=by simp at u0 u1 v2;exact(decide_eq_true ahE).symm
def bV{a:Int}(u0:(a==0)=false)(u1:(a==10)=false)(v1:(b==10)=false)(v2:(b==0)=false):false=kx a b:=by simp at u0 u1 v1 v2;exact(decide_eq_false ahE).symm
def bQ(h:b≠10):true=kx 10 b:=(decide_eq_true ahE).symm
def ie(a:Int):false=kx a a:=(decide_eq_false ahE).symm
def au(ty:TypeId)(B BC:Nat->Prop)(w:World)(a g:Nat)(X:SmX)(c:CoC)(P T:List Int)(U:List Sp)(n:Nat)(x':Nu)(e:Ending)(w':World):Prop:=
 e= returned (bool (kx (sv U n).pc (sv x'.U n).pc))/\av ty B BC w' a g X c P T x'.st x'.d x'.U/\aa (SmS a g X) w w'
section
variable{ty:TypeId}{B BC:Nat->Prop}{w:World}{a g:Nat}{X:SmX}{c:CoC}{U:List Sp}{x':Nu}{e:Ending}{p p':Sp}
def au.stay(k:av ty B BC w' a g X c P T x'.st x'.d x'.U)(t:aa (SmS a g X) w w')(h:x'.U=U):au ty B BC w a g X c P T U n x' (returned (bool false)) w':=
 ⟨by rw[h,<-ie],k,t⟩
def au.put(h:U[n]? =some p)(k:av ty B BC w' a g X c P T x'.st x'.d x'.U)(t:aa (SmS a g X) w w')(O:x'.U=U.set n p')(V:r=kx p.pc p'.pc):au ty B BC w a g X c P T U n x' (returned (.bool r)) w':=by
 refine⟨?_,k,t⟩;obtain⟨I,Y⟩:=List.getElem?_eq_some_iff.1 h;have H:sv U n=p:=by unfold sv;rw[List.getD_eq_getElem?_getD,h];rfl
 rw[O,V,H,ba,if_pos ⟨rfl,I⟩]
end
section
variable{ty:TypeId}
variable{B BC:Nat->Prop}{w:World}{a g:Nat}{X:SmX}{c:CoC}{st st':Co}{d d':Dr}{U:List Sp}{s':Ar}
def av.put4(h:av ty B BC w a g X c P T st d U)(Y:n<T.length)(p':Sp):av ty B BC ((((w.setCell ⟨X.q,n*4,none⟩ (J p'.pc)).setCell ⟨X.q,n*4+1,none⟩ (J p'.a)).setCell ⟨X.q,n*4+2,none⟩ (J p'.b)).setCell ⟨X.q,n*4+3,none⟩ (J p'.c)) a g X c P T st d (U.set n p'):=by have H:=h.thr Y;obtain⟨p,e⟩:=LE (sv U n);rw[<-e]at H;have h1:=h.put0 H (u:= J p'.pc) (p':=⟨p'.pc,p.a,p.b,p.c⟩) rfl;have O:=h1.put (Jp H _) (j:=1) (u:= J p'.a) (p':=⟨p'.pc,p'.a,p.b,p.c⟩) ahG rfl;have V:=O.put (Jp (Jp H _) _) (j:=2) (u:= J p'.b) (p':=⟨p'.pc,p'.a,p'.b,p.c⟩) ahG rfl;have I:=V.put (Jp (Jp (Jp H _) _) _) (j:=3) (u:= J p'.c) (p':=p') ahG rfl;simp only[List.set_set]at I;exact I
def ft(w:World)(n:Nat)(u0 u1 u2 u3:Value):aa (SmS a g X) w ((((w.setCell ⟨X.q,n*4,none⟩ u0).setCell ⟨X.q,n*4+1,none⟩ u1).setCell ⟨X.q,n*4+2,none⟩ u2).setCell ⟨X.q,n*4+3,none⟩ u3):=
 (((dW _ _).trans (dW _ _)).trans (dW _ _)).trans (dW _ _)
end
section
variable{B BC:Nat->Prop}{w:World}{a g:Nat}{X:SmX}{c:CoC}{st st':Co}{d d':Dr}{U:List Sp}{s':Ar}
def EP(h:av 330 B BC w a g X c P T st d U)(n:Nat)(hn:n<T.length)(r:Bool):E 361 #[↑X.l,J n,.bool r] w (au 330 B BC w a g X c P T U n (cE c ⟨st,d,U⟩ n r)):=by
 have mP:okI U (n:Int):=⟨by omega,by rw[h.lU];omega⟩;have HH:=qh (AK h n true (decide_eq_true mP).symm);have hp:=h.thr hn;have H:=qh h;have V:=h.nT;have HA:=qh (rQ h.co n (by rw[V.1];exact hn));obtain⟨x',O⟩:=LE (cE c ⟨st,d,U⟩ n r);rw[<-O];unfold cE at O;obtain⟨p,Y⟩:=LE (sv U n);simp only at O;rw[<-Y]at hp O;have c6:=h.cs.2.2.2.2.2.2;have c5:=h.cs.2.2.2.2.2.1;refine ai1 ?_;intro a0 a1 a2 a3;have f1:∀j,w.frozen? ⟨X.q,j,none⟩=false:=λj=>h.sp.free j;have t2:¬(n:Int)<0:=by omega
 have HX:=qh O;have HP:=qh hp;clear h hp Y mP V O;by_cases I:p.pc=0
 .have y1:(p.pc !=0)=false:=by simpa using I
  have HP0:=qh I;clear I;cases r;.go_enter func361,ntmps361;exact abS
  .go_enter func361,ntmps361;exact abT
 .have y1:(p.pc !=0)=true:=by simpa using I
  have HP0:=qh I;clear I;go_enter func361,ntmps361;exact abU
def Bc(h:av 330 B BC w a g X c P T st d U)(n:Nat)(hn:n<T.length)(I:(sv U n).pc=10->(sv U n).a=0\/(sv U n).a=1):E 362 #[↑X.l,J n] w (au 330 B BC w a g X c P T U n (aE ⟨st,d,U⟩ n)):=by
 have JL:=aM;have Y:=oQ h n;have V:=h.thr hn;have hg:getS U (n:Int)=sv U n:=by exact abV
 rw[hg]at Y;refine aj6 ?_;intro H x' p i' mT;rw[<-i']at V mT Y I;have HS:=qh Y;have HX:=qh mT;have HP:=qh V;refine aj0 ?_;intro t2 LU;clear h V i' mT hg Y;obtain⟨pc,u,b,z⟩:=p;simp only at I HX;unfold aF at HS;by_cases JW:pc=10
 .subst JW;have Ku:=I rfl;obtain⟨v,O⟩:=LE (12-u);have x1:IntKind.i64.wrap (12-u)=v:=by rw[O];exact IntWalk.i64_in _ ahE
  rw[<-O]at HX;have HV:Kq (v≠10):=qh ahE;clear I Ku O;have HC:=qh (λW (U':List Sp) (JC:Int) (k:av 330 B BC W a g X c P T st d U') (V:U'[n]? =some (⟨JC,u,b,z⟩:Sp))=>And.intro k.cs.2.2.2.2.2.2 (k.sp.cell V 1 _ rfl));go_enter func362,ntmps362;go_wp2_with fail;refine ajT ?_;intro w1 b1 K1 T1 K0;have K3:=qh ((K0.o.put0 HP.o (p':=(⟨v,u,b,z⟩:Sp)) (u:= J v) rfl).below (Below.refl _ _).drew);have T3:=qh (show aa (SmS a g X) w ((w1.setCell ⟨X.q,n*4,none⟩ (J v)).drew)from((aa.of_below b1.o).trans (dW _ _)).drew);have e0:=ST (K1.o.sp.cell HP.o 0 _ rfl);have z0:=K1.o.sp.free (n*4);go_wp2_with fail
  go_region_held3 (λW=>Z W X.l 6 (slice (some ⟨X.q,0,none⟩) T.length T.length)/\Z W X.q (n*4+1) (J u))
   (first|with_reducible exact HC.o _ _ _ K1.o HP.o|with_reducible exact HC.o _ _ _ K3.o (Jp HP.o _))
   (first|fail)
  exact abW
 .have y1:(pc !=10)=true:=by simpa using JW
  have HP0:=qh JW;clear JW I;go_enter func362,ntmps362;go_wp2_with fail;refine Op HS.o λw1 HB=>?_;go_wp2;go_ret;rw[HX.o,if_neg HP0.o];first|exact au.stay (H.o.below HB.o) (aa.of_below HB.o) rfl|exact au.put HP.o (H.o.below HB.o) (aa.of_below HB.o) rfl ahO
end
end
section
open Go
section
variable{c:CoC}{x:Nu}{B:Int}
def vl{p:Sp}(h:¬(p.a=1/\(p.pc=2\/p.pc=3\/p.pc=6\/p.pc=10\/p.pc=11))):jr p=false:=decide_eq_false h
def FN{p:Sp}(h:p.a=1/\(p.pc=2\/p.pc=3\/p.pc=6\/p.pc=10\/p.pc=11)):jr p=true:=decide_eq_true h
def NuI.ask(h:NuI c n N ml x)(y:cH c n N ml){i:Nat}(hi:i<n)(r:Bool):NuI c n N ml (cE c x i r):=by
 unfold cE;split
 .rename_i h0;have Y:=h.k i hi;have O:(sv x.st.T i).pc=0:=by unfold gS at Y;omega
  have I:jr (sv x.U i)=false:=vl ahE;split;.exact h.upd hi h.m (λ_ _=>rfl) (.inr (.inl ⟨rfl,.inl rfl,O⟩)) (eA h hi (by rw[I];rfl) (λ_ _=>rfl)) (λj H _ hw=>h.fl j H hw) (λhw=>by unfold wrP at hw;simp at hw) (λ_ _=>Int.le_refl _) (λV=>by unfold fj at V;simp at V) (λ_ _ _ _ _=>rfl) (λe=>by simp at e) (λe=>by simp at e)
  .have hm:=h.m.ask y hi;have hs:=gA c x.st i;have hT:=(ij (c:=c) (j:=i) h.m.v hi).2 O;exact h.upd hi hm (λj H=>(ij (c:=c) h.m.v hi).1 H) (.inr (.inr (.inr (.inr (.inr (.inl ⟨rfl,rfl,by omega,by omega⟩)))))) (by rw[hs];exact eA h hi (by rw[I];rfl) (λ_ _=>rfl)) (λj H _ hw=>by rw[hs];exact h.fl j H hw) (λhw=>by unfold wrP at hw;simp at hw) (λa _=>by rw[hs];exact Int.le_refl _) (λV=>by unfold fj at V;simp at V) (λ_ _ _ _ _=>rfl) (λ_ e=>by simp at e) (λ_ e=>by simp at e)
 .exact h
def NuI.leave(h:NuI c n N ml x){i:Nat}(hi:i<n):NuI c n N ml (aE x i):=by
 unfold aE;split
 .rename_i h10;have hk:=h.k i hi;obtain⟨p,hp⟩:=LE (sv x.U i);have O:=h.fl i hi;rw[<-hp]at hk h10 O ⊢;have Y:(p.a=1/\(sv x.st.T i).pc=0)\/(p.a=0/\(sv x.st.T i).pc=10):=by unfold gS at hk;omega
  obtain⟨pc,u,b,z⟩:=p;simp only at h10 Y;subst h10;rcases Y with⟨rfl,I⟩|⟨rfl,I⟩
  .refine h.upd hi h.m (λ_ _=>rfl) (.inr (.inl ⟨rfl,.inr (.inr (.inr (.inr rfl))),I⟩)) (eA h hi ahK (λ_ _=>rfl)) (λj H _ hw=>h.fl j H hw) (λhw=>by unfold wrP at hw;simp at hw) (λ_ _=>Int.le_refl _) (λV=> .inl (by rw[<-hp];exact⟨rfl,.inr (.inl rfl)⟩)) (λ_ _ _ _ _=>rfl) (λe=>by simp at e) (λe=>by simp at e)
  .refine h.upd hi h.m (λ_ _=>rfl) (.inr (.inr (.inr (.inr (.inr (.inr (.inl ⟨rfl,.inr (.inr (.inr rfl)),I⟩))))))) (eA h hi ahK (λ_ _=>rfl)) (λj H _ hw=>h.fl j H hw) (λ_=>O ⟨rfl,.inr (.inl rfl)⟩) (λ_ _=>Int.le_refl _) (λV=>by unfold fj at V;simp at V) (λ_ _ _ _ _=>rfl) (λ_ e=>by simp at e) (λ_ e=>by simp at e)
 .exact h
def gQ(s:Ar)(d:Dr):(ai s d).1.W=s.W:=by
 unfold ai;split
 .split;.exact aP _ _
  .exact aP _ _
 .rfl
def NuI.step(h:NuI c n N ml x)(y:cH c n N ml)(l:NuL c N x.st.s.W)(hB:CoB c B x.st)(JJ:1100<=B)(JM:B<=1000000000000){i:Nat}(hi:i<n):NuI c n N ml (cD c N x i):=by
  have hn:=(y.nd i hi).1;have JB:∀j,j<n->c.node j<N:=λj hj=>(y.nd j hj).1;have hk:=h.k i hi;have C':=h.fl i hi;have Kd:=h.dr i hi;obtain⟨p,hp⟩:=LE (sv x.U i);have oth:(sv x.st.T i).pc=10->∀j,j<n->j≠i->¬wrP (sv x.U j):=λht j hj e hw=>e (h.one y hj hi (Jn (h.k j hj) hw) ht);refine aj1 ?_;intro Kl bA bW;refine ajh ?_;intro wA wW;have lA:=uO h y l (z:=gaA (c.node i)) ⟨(eO hn).1,by have:=(eO hn).2;omega⟩ (ldW x.st.s.W (gaA (c.node i))+1) (s':=addA x.st.s (gaA (c.node i)) 1) (by rw[dT,wA]);have lW:=uO h y l (z:=gaW (c.node i)) ⟨(bD hn).1,by have:=(bD hn).2;omega⟩ (ldW x.st.s.W (gaW (c.node i))+1) (s':=addA x.st.s (gaW (c.node i)) 1) (by rw[dT,wW]);have lF:=λv=>uO h y l (z:=nuFl N) ⟨by unfold nuFl;omega,Int.le_refl _⟩ v (s':=ae x.st.s (nuFl N) v) (aw _ _ _);refine ai4 ?_;intro fA fW HA;have HW:∀a,a<N->ldW x.st.s.W (gaW a)<=ldW (addA x.st.s (gaW (c.node i)) 1).W (gaW a):=λa _=>by exact abX
  refine ajg ?_;intro HF SF mS lS Js tS aS;unfold cD;rw[<-hp];rw[<-hp]at hk C' Kd;split;. exact h
  rename_i ab;split
  . rename_i h2;obtain⟨pc,u,b,z⟩:=p;simp only at h2;subst h2;have JS:u=1/\(sv x.st.T i).pc=0:=(by unfold gS at hk;simp at hk;exact hk);obtain⟨rfl,ht⟩:=JS;have e:(af x.st.s (nuFl N)).W=x.st.s.W:=aP _ _;refine h.upd hi (Bm h y e) (λ_ _=>rfl) ?_ (eA h hi ?_ (λq _=>by show ldW (af _ _).W q=_;rw[e])) (λj hj _ hw=>by show ldW (af _ _).W _≠0;rw[e];exact h.fl j hj hw) (λhw=>by unfold wrP at hw;simp at hw) (λa _=>by show _<=ldW (af _ _).W _;rw[e];exact Int.le_refl _) (λV=> .inr (λj hj _ hw=>?_)) (λ_ _ _ _ _=>rfl) (λe=>by simp at e) (λe=>by simp at e)
    . refine .inr (.inl ⟨rfl,?_,ht⟩);simp only;split;. exact .inr (.inr (.inr (.inl rfl)))
      . exact .inr (.inr (.inl rfl))
    . rw[<-hp];simp only;split<;>rfl
    . have hf:=h.fl j hj hw;unfold fj at V;simp only at V;rw[if_neg hf]at V;omega
  rename_i h2;have ZY:=oth;unfold gS at hk;obtain⟨pc,u,b,z⟩:=p;simp only at hk ab h2 C' Kd
  have JP:(u=1/\pc=1/\(sv x.st.T i).pc=0)\/(u=1/\pc=3/\(sv x.st.T i).pc=0)\/(u=1/\pc=11/\(sv x.st.T i).pc=0)\/(u=1/\pc=4/\0<(sv x.st.T i).pc/\(sv x.st.T i).pc<10)\/(u=1/\pc=5/\(sv x.st.T i).pc=10)\/(u=1/\pc=6/\10<(sv x.st.T i).pc)\/
      (u=0/\pc=7/\0<(sv x.st.T i).pc/\(sv x.st.T i).pc<10)\/(u=0/\pc=8/\(sv x.st.T i).pc=10)\/(u=0/\pc=9/\(sv x.st.T i).pc=10)\/(u=0/\pc=12/\(sv x.st.T i).pc=10)\/(u=0/\pc=13/\10<(sv x.st.T i).pc):=by
    rcases hk with⟨I,H⟩|⟨I,H,Y⟩|⟨I,H,Y⟩|⟨I,H,Y⟩|⟨I,H,Y⟩|⟨I,H,Y⟩|⟨I,H,Y⟩|⟨I,H,Y⟩
    . exact absurd (.inl I) ab
    . rcases H with H|H|H|H|H
      . exact .inl ⟨I,H,Y⟩
      . exact absurd H h2
      . exact .inr (.inl ⟨I,H,Y⟩)
      . exact absurd (.inr H) ab
      . exact .inr (.inr (.inl ⟨I,H,Y⟩))
    . exact .inr (.inr (.inr (.inl ⟨I,H,Y⟩)))
    . exact .inr (.inr (.inr (.inr (.inl ⟨I,H,Y⟩))))
    . exact .inr (.inr (.inr (.inr (.inr (.inl ⟨I,H,Y⟩)))))
    . exact .inr (.inr (.inr (.inr (.inr (.inr (.inl ⟨I,H,Y⟩))))))
    . rcases H with H|H|H|H
      . exact .inr (.inr (.inr (.inr (.inr (.inr (.inr (.inl ⟨I,H,Y⟩)))))))
      . exact .inr (.inr (.inr (.inr (.inr (.inr (.inr (.inr (.inl ⟨I,H,Y⟩))))))))
      . exact absurd (.inr H) ab
      . exact .inr (.inr (.inr (.inr (.inr (.inr (.inr (.inr (.inr (.inl ⟨I,H,Y⟩)))))))))
    . exact .inr (.inr (.inr (.inr (.inr (.inr (.inr (.inr (.inr (.inr (⟨I,H,Y⟩))))))))))
  clear hk;rcases JP with⟨rfl,rfl,ht⟩|⟨rfl,rfl,ht⟩|⟨rfl,rfl,ht⟩|⟨rfl,rfl,ht⟩|⟨rfl,rfl,ht⟩|⟨rfl,rfl,ht⟩|⟨rfl,rfl,ht⟩|⟨rfl,rfl,ht⟩|⟨rfl,rfl,ht⟩|⟨rfl,rfl,ht⟩|⟨rfl,rfl,ht⟩
  . show NuI c n N ml ⟨onA x.st (addA x.st.s (gaA (c.node i)) 1),x.d,x.U.set i ⟨2,1,b,z⟩⟩;exact h.upd (p':=⟨2,1,b,z⟩) hi lA.2 (λ_ _=>rfl) (.inr (.inl ⟨rfl,.inr (.inl rfl),ht⟩)) (GC h JB hi ahK rfl lA.1) (λj hj _ hw=>by rw[show ldW (onA x.st (addA x.st.s (gaA (c.node i)) 1)).s.W (nuFl N)=_ from fA];exact h.fl j hj hw) (λhw=>by unfold wrP at hw;simp at hw) HA (λV=>by unfold fj at V;simp at V) (λ_ _ _ _ _=>rfl) (λe=>by simp at e) (λe=>by simp at e)
  . show NuI c n N ml ⟨bz c (onA x.st (addA x.st.s (gaW (c.node i)) 1)) i,x.d,x.U.set i ⟨4,1,b,z⟩⟩;have hm:=lW.2.ask y hi;have hs:=gA c (onA x.st (addA x.st.s (gaW (c.node i)) 1)) i;have hT:=ij (c:=c) (st:=onA x.st (addA x.st.s (gaW (c.node i)) 1)) (j:=i) lW.2.v hi;have PX:(sv (bz c (onA x.st (addA x.st.s (gaW (c.node i)) 1)) i).T i).pc=1:=hT.2 ht;refine h.upd (p':=⟨4,1,b,z⟩) hi hm (λj hj=>(ij (c:=c) (st:=onA x.st (addA x.st.s (gaW (c.node i)) 1)) lW.2.v hi).1 hj) (.inr (.inr (.inl ⟨rfl,rfl,by omega,by omega⟩))) ?_ (λj hj _ hw=>?_) (λhw=>by unfold wrP at hw;simp at hw) (λa ha=>?_) (λV=>by unfold fj at V;simp at V) (λ_ _ _ _ _=>rfl) (λe=>by simp at e) (λe=>by simp at e);. show ∀a,a<N->ldW (bz c _ i).s.W _=_;rw[hs];exact Ep h JB hi ahK rfl lW.1
    . show ldW (bz c _ i).s.W _≠0;rw[hs];rw[show ldW (onA x.st (addA x.st.s (gaW (c.node i)) 1)).s.W (nuFl N)=_ from fW];exact h.fl j hj hw
    . show _<=ldW (bz c _ i).s.W _;rw[hs];exact HW a ha
  . show NuI c n N ml ⟨onA x.st (addA x.st.s (gaW (c.node i)) 1),x.d,x.U.set i ⟨0,1,b,z⟩⟩;exact h.upd (p':=⟨0,1,b,z⟩) hi lW.2 (λ_ _=>rfl) (.inl ⟨rfl,ht⟩) (Ep h JB hi ahK rfl lW.1) (λj hj _ hw=>by rw[show ldW (onA x.st (addA x.st.s (gaW (c.node i)) 1)).s.W (nuFl N)=_ from fW];exact h.fl j hj hw) (λhw=>by unfold wrP at hw;simp at hw) HW (λV=>by unfold fj at V;simp at V) (λ_ _ _ _ _=>rfl) (λe=>by simp at e) (λe=>by simp at e)
  . have a1:=aS.1 ht;show NuI c n N ml ⟨aj c x.st i,x.d,x.U.set i (nuTo ⟨4,1,b,z⟩ (bo (sv x.st.T i) (sv (aj c x.st i).T i)))⟩;rw[a1.2];by_cases Kn:(sv (aj c x.st i).T i).pc=10;. rw[decide_eq_true Kn];exact h.upd (p':=⟨5,1,b,z⟩) hi mS tS (.inr (.inr (.inr (.inl ⟨rfl,rfl,Kn⟩)))) (eA h hi ahK (λq hq=>Js q ahE)) (λj hj _ hw=>by rw[Js _ (Int.le_refl _)];exact h.fl j hj hw) (λhw=>by unfold wrP at hw;simp at hw) (λa ha=>by rw[Js _ ahM];exact Int.le_refl _) (λV=>by unfold fj at V;simp at V) (λ_ _ _ _ _=>rfl) (λe=>by simp at e) (λe=>by simp at e)
    . rw[decide_eq_false Kn];exact h.upd (p':=⟨4,1,b,z⟩) hi mS tS (.inr (.inr (.inl ⟨rfl,rfl,a1.1.1,by omega⟩))) (eA h hi ahR (λq hq=>Js q ahE)) (λj hj _ hw=>by rw[Js _ (Int.le_refl _)];exact h.fl j hj hw) (λhw=>by unfold wrP at hw;simp at hw) (λa ha=>by rw[Js _ ahM];exact Int.le_refl _) (λV=>by unfold fj at V;simp at V) (λ_ _ _ _ _=>rfl) (λe=>by simp at e) (λe=>by simp at e)
  . show NuI c n N ml ⟨az (onA x.st (addA x.st.s (gaA (c.node i)) 1)) i,x.d,x.U.set i ⟨6,1,b,z⟩⟩;have hm:=lA.2.leave y hi;have hs:=fF (onA x.st (addA x.st.s (gaA (c.node i)) 1)) i;have PX:(sv (az (onA x.st (addA x.st.s (gaA (c.node i)) 1)) i).T i).pc=11:=(eT (st:=onA x.st (addA x.st.s (gaA (c.node i)) 1)) (j:=i) lA.2.v hi).2 ht;refine h.upd (p':=⟨6,1,b,z⟩) hi hm (λj hj=>(eT (st:=onA x.st (addA x.st.s (gaA (c.node i)) 1)) lA.2.v hi).1 hj) (.inr (.inr (.inr (.inr (.inl ⟨rfl,rfl,by omega⟩))))) ?_ (λj hj _ hw=>?_) (λhw=>by unfold wrP at hw;simp at hw) (λa ha=>?_) (λ_=> .inr (oth ht)) (λ_ _ _ _ _=>rfl) (λe=>by simp at e) (λe=>by simp at e);. show ∀a,a<N->ldW (az _ i).s.W _=_;rw[hs];exact GC h JB hi ahK rfl lA.1
    . show ldW (az _ i).s.W _≠0;rw[hs];rw[show ldW (onA x.st (addA x.st.s (gaA (c.node i)) 1)).s.W (nuFl N)=_ from fA];exact h.fl j hj hw
    . show _<=ldW (az _ i).s.W _;rw[hs];exact HA a ha
  . have a1:=aS.2 ht;show NuI c n N ml ⟨aj c x.st i,x.d,x.U.set i (nuTo ⟨6,1,b,z⟩ (bo (sv x.st.T i) (sv (aj c x.st i).T i)))⟩;rw[a1.2];have JA:fj (sv x.U i):=(by rw[<-hp];exact⟨rfl,.inl rfl⟩);by_cases Kn:(sv (aj c x.st i).T i).pc=0;. rw[decide_eq_true Kn];exact h.upd (p':=⟨10,1,b,z⟩) hi mS tS (.inr (.inl ⟨rfl,.inr (.inr (.inr (.inl rfl))),Kn⟩)) (eA h hi ahK (λq hq=>Js q ahE)) (λj hj _ hw=>by rw[Js _ (Int.le_refl _)];exact h.fl j hj hw) (λhw=>by unfold wrP at hw;simp at hw) (λa ha=>by rw[Js _ ahM];exact Int.le_refl _) (λ_=> .inl JA) (λ_ _ _ _ _=>rfl) (λe=>by simp at e) (λe=>by simp at e)
    . rw[decide_eq_false Kn];exact h.upd (p':=⟨6,1,b,z⟩) hi mS tS (.inr (.inr (.inr (.inr (.inl ⟨rfl,rfl,by omega⟩))))) (eA h hi ahR (λq hq=>Js q ahE)) (λj hj _ hw=>by rw[Js _ (Int.le_refl _)];exact h.fl j hj hw) (λhw=>by unfold wrP at hw;simp at hw) (λa ha=>by rw[Js _ ahM];exact Int.le_refl _) (λ_=> .inl JA) (λ_ _ _ _ _=>rfl) (λe=>by simp at e) (λe=>by simp at e)
  . have a1:=aS.1 ht;show NuI c n N ml ⟨aj c x.st i,x.d,x.U.set i (nuTo ⟨7,0,b,z⟩ (bo (sv x.st.T i) (sv (aj c x.st i).T i)))⟩;rw[a1.2];by_cases Kn:(sv (aj c x.st i).T i).pc=10;. rw[decide_eq_true Kn];exact h.upd (p':=⟨8,0,b,z⟩) hi mS tS (.inr (.inr (.inr (.inr (.inr (.inr (.inl ⟨rfl,.inl rfl,Kn⟩))))))) (eA h hi ahK (λq hq=>Js q ahE)) (λj hj _ hw=>by rw[Js _ (Int.le_refl _)];exact h.fl j hj hw) (λhw=>by unfold wrP at hw;simp at hw) (λa ha=>by rw[Js _ ahM];exact Int.le_refl _) (λV=>by unfold fj at V;simp at V) (λ_ _ _ _ _=>rfl) (λ_ e=>by simp at e) (λ_ e=>by simp at e)
    . rw[decide_eq_false Kn];exact h.upd (p':=⟨7,0,b,z⟩) hi mS tS (.inr (.inr (.inr (.inr (.inr (.inl ⟨rfl,rfl,a1.1.1,by omega⟩)))))) (eA h hi ahR (λq hq=>Js q ahE)) (λj hj _ hw=>by rw[Js _ (Int.le_refl _)];exact h.fl j hj hw) (λhw=>by unfold wrP at hw;simp at hw) (λa ha=>by rw[Js _ ahM];exact Int.le_refl _) (λV=>by unfold fj at V;simp at V) (λ_ _ _ _ _=>rfl) (λ_ e=>by simp at e) (λ_ e=>by simp at e)
  . show NuI c n N ml ⟨onA x.st (ae x.st.s (nuFl N) 1),dP x.d N false,x.U.set i ⟨9,0,b,z⟩⟩;have hN:1<=N:=(by omega);refine h.upd (p':=⟨9,0,b,z⟩) hi (lF 1).2 (λ_ _=>rfl) (.inr (.inr (.inr (.inr (.inr (.inr (.inl ⟨rfl,.inr (.inl rfl),ht⟩))))))) (eA h hi ahK (SF 1)) (λj hj e hw=>absurd hw (oth ht j hj e)) (λ_=>by show ldW (ae _ _ _).W _≠0;rw[(lF 1).1,if_pos rfl];decide) (HF 1) (λV=>by unfold fj at V;simp at V) (λj hj e h0 h9=>(Kl ht j hj e h0 h9).elim) (λ_ _=>?_) (λ_ e=>by simp at e);exact⟨⟨rfl,rfl,hN,rfl⟩,λe=>by simp[dP]at e,λj hj _=>Nat.zero_le _⟩
  . obtain⟨⟨I,H,Y,q4⟩,q5,q6⟩:=Kd rfl rfl;have Mc:=C' ⟨rfl,.inl rfl⟩;have hW:=gQ x.st.s x.d;have hs:=svS (show i<x.U.length by rw[h.lU];exact hi)
    have nr:∀JC j,fj (sv (x.U.set i ⟨JC,0,b,z⟩) j)->j≠i/\fj (sv x.U j):=λJC j V=>by
      rw[hs]at V;split at V;. unfold fj at V;simp at V
      . rename_i e;exact⟨e,V⟩
    have go:∀(JC:Int) (d':Dr),(JC=9\/JC=10)->(JC=9->DrI c n N d' x.st.s.W (x.U.set i ⟨JC,0,b,z⟩))->(JC=10->∀j,j<n->j≠i->¬fj (sv x.U j))->NuI c n N ml ⟨onA x.st (ai x.st.s x.d).1,d',x.U.set i ⟨JC,0,b,z⟩⟩:=λJC d' H' o9 Qx=>by
      refine h.upd (p':=⟨JC,0,b,z⟩) hi (Bm h y hW) (λ_ _=>rfl) (.inr (.inr (.inr (.inr (.inr (.inr (.inl ⟨rfl,?_,ht⟩))))))) (eA h hi ?_ (λq _=>by show ldW (ai _ _).1.W q=_;rw[hW])) (λj hj _ hw=>by show ldW (ai _ _).1.W _≠0;rw[hW];exact h.fl j hj hw) (λ_=>by show ldW (ai _ _).1.W _≠0;rw[hW];exact Mc) (λa _=>by show _<=ldW (ai _ _).1.W _;rw[hW];exact Int.le_refl _) (λV=>by unfold fj at V;simp at V) (λj hj e h0 h9=>(Kl ht j hj e h0 h9).elim) (λ_ h9=>?_) (λ_ h10=>Qx h10)
      . rcases H' with rfl|rfl
        . exact .inr (.inl rfl)
        . exact .inr (.inr (.inl rfl))
      . rw[<-hp,vl ahF,vl ahF]
      . show DrI c n N d' (ai _ _).1.W _;rw[hW];exact o9 h9
    show NuI c n N ml ⟨onA x.st (ai x.st.s x.d).1,(ai x.st.s x.d).2.1,x.U.set i (nuTo ⟨9,0,b,z⟩ (ai x.st.s x.d).2.2)⟩;by_cases MV:x.d.second=true
    . have e1:ai x.st.s x.d=(af x.st.s (gaA x.d.at_),dN x.st.s x.d):=(by unfold ai;rw[I,MV];rfl);have e2:(ai x.st.s x.d).2=dN x.st.s x.d:=(by rw[e1]);rw[e2];unfold dN;by_cases O:ldW x.st.s.W (gaA x.d.at_)=x.d.o
      . rw[if_neg (by simpa using O)];have hg:=h.g x.d.at_ Y;have VF:=q5 MV;have Vc:ky c n x.U x.d.at_=0:=by omega
        have MA:∀j,j<n->fj (sv x.U j)->c.node j≠x.d.at_:=λj hj V e=>by
          have:0<ky c n x.U x.d.at_:=jw (P:=λj=>decide (c.node j=x.d.at_)&&jr (sv x.U j)) hj (by
            simp only[Bool.and_eq_true,decide_eq_true_eq];refine⟨e,FN ⟨V.1,?_⟩⟩;rcases V.2 with h1|h1|h1
            . exact .inr (.inr (.inl h1))
            . exact .inr (.inr (.inr (.inl h1)))
            . exact .inr (.inr (.inr (.inr h1))))
          omega
        by_cases NV:x.d.at_+1=x.d.lim;. rw[if_pos NV];refine go 10 _ (.inr rfl) (λe=>by simp at e) (λ_ j hj e V=>?_);have h1:=q6 j hj V;have h2:=MA j hj V;have h3:=JB j hj;omega
        . rw[if_neg NV];refine go 9 _ (.inl rfl) (λ_=>⟨⟨I,H,by show x.d.at_+1<N;omega,q4⟩,λe=>by simp at e,λj hj V=>?_⟩) (λe=>by simp at e);have JZ:=(nr 9 j V).2;have h1:=q6 j hj JZ;have h2:=MA j hj JZ;show x.d.at_+1<=c.node j;omega
      . rw[if_pos O,if_neg (by rw[H];decide)];exact go 9 _ (.inl rfl) (λ_=>⟨⟨I,H,Y,q4⟩,λe=>by simp at e,λj hj V=>q6 j hj (nr 9 j V).2⟩) (λe=>by simp at e)
    . have e1:ai x.st.s x.d=(af x.st.s (gaW x.d.at_),{x.d with o:=ldW x.st.s.W (gaW x.d.at_),second:=true},false):=(by unfold ai;rw[if_pos I,if_neg MV]);have e2:(ai x.st.s x.d).2=({x.d with o:=ldW x.st.s.W (gaW x.d.at_),second:=true},false):=(by rw[e1]);rw[e2];exact go 9 _ (.inl rfl) (λ_=>⟨⟨I,H,Y,q4⟩,λ_=>Int.le_refl _,λj hj V=>q6 j hj (nr 9 j V).2⟩) (λe=>by simp at e)
  . show NuI c n N ml ⟨az (onA x.st (ae x.st.s (nuFl N) 0)) i,x.d,x.U.set i ⟨13,0,b,z⟩⟩;refine aj3 ?_;intro hm hs PX;refine h.upd (p':=⟨13,0,b,z⟩) hi hm (λj hj=>(eT (st:=onA x.st (ae x.st.s (nuFl N) 0)) (lF 0).2.v hi).1 hj) (.inr (.inr (.inr (.inr (.inr (.inr (.inr ⟨rfl,rfl,by omega⟩))))))) ?_ (λj hj e hw=>absurd hw (oth ht j hj e)) (λhw=>by unfold wrP at hw;simp at hw) (λa ha=>?_) (λV=>by unfold fj at V;simp at V) (λ_ _ _ _ _=>rfl) (λ_ e=>by simp at e) (λ_ e=>by simp at e);. show ∀a,a<N->ldW (az _ i).s.W _=_;rw[hs];exact eA h hi ahK (SF 0)
    . show _<=ldW (az _ i).s.W _;rw[hs];exact HF 0 a ha
  . have a1:=aS.2 ht;show NuI c n N ml ⟨aj c x.st i,x.d,x.U.set i (nuTo ⟨13,0,b,z⟩ (bo (sv x.st.T i) (sv (aj c x.st i).T i)))⟩;rw[a1.2];by_cases Kn:(sv (aj c x.st i).T i).pc=0;. rw[decide_eq_true Kn];exact h.upd (p':=⟨0,0,b,z⟩) hi mS tS (.inl ⟨rfl,Kn⟩) (eA h hi ahK (λq hq=>Js q ahE)) (λj hj _ hw=>by rw[Js _ (Int.le_refl _)];exact h.fl j hj hw) (λhw=>by unfold wrP at hw;simp at hw) (λa ha=>by rw[Js _ ahM];exact Int.le_refl _) (λV=>by unfold fj at V;simp at V) (λ_ _ _ _ _=>rfl) (λ_ e=>by simp at e) (λ_ e=>by simp at e)
    . rw[decide_eq_false Kn];exact h.upd (p':=⟨13,0,b,z⟩) hi mS tS (.inr (.inr (.inr (.inr (.inr (.inr (.inr ⟨rfl,rfl,by omega⟩))))))) (eA h hi ahR (λq hq=>Js q ahE)) (λj hj _ hw=>by rw[Js _ (Int.le_refl _)];exact h.fl j hj hw) (λhw=>by unfold wrP at hw;simp at hw) (λa ha=>by rw[Js _ ahM];exact Int.le_refl _) (λV=>by unfold fj at V;simp at V) (λ_ _ _ _ _=>rfl) (λ_ e=>by simp at e) (λ_ e=>by simp at e)
end
end
section
open Go Go.RowKit
def svR(k i:Nat):sv (List.replicate k Sp.zero) i=Sp.zero:=by exact aa7
section
variable{c:CoC}{x:Nu}{st:Co}{B:Int}{o:Nat}
def bK.on(h:bK c n L B o st){s':Ar}(H:B<=C)(hw:WdB C s')(I:eE st.s s'):bK c n L C (o+1) (onA st s'):=
 ⟨⟨hw,(h.bd.mono H).g,(h.bd.mono H).l,(h.bd.mono H).t⟩,h.v.ars s',by show s'.W.length=L;rw[I.2,h.len],by show s'.ops<=o+1;have:=I.1;have:=h.ops;omega⟩
def bK.up(h:bK c n L B o st)(H:B<=C){p:Nat}(I:o<=p):bK c n L C p st:=⟨h.bd.mono H,h.v,h.len,by have:=h.ops;omega⟩
def uU(s:Ar)(d:Dr):eE s (ai s d).1:=by
 unfold ai;split
 .split;.exact gi _ _
  .exact gi _ _
 .exact⟨Nat.le_succ _,rfl⟩
def yz(h:bK c n L B o x.st)(k:kG c n N L)(hB:1100<=B)(Y:B<=1000000000000){i:Nat}(hi:i<n)(pc:Int):bK c n L (B+4) (o+1) (iy c N x i pc).1:=by
 have Ln:∀z,bK c n L (B+2) (o+1) (onA x.st (addA x.st.s z 1)):=λz=>h.on ahE (h.bd.w.add1 ahE ahE z) (kY _ _ _);have H:∀z v,0<=v/\v<=1->bK c n L (B+2) (o+1) (onA x.st (ae x.st.s z v)):=λz v O=>h.on ahE ((h.bd.w.mono ahE).store z v ahE) (iR _ _ _);have V:∀{st'},bK c n L (B+2) (o+1) st'->bK c n L (B+4) (o+1) (bz c st' i):=λ{st'} q=>by exact abY
 have I:∀{st'},bK c n L (B+2) (o+1) st'->bK c n L (B+4) (o+1) (az st' i):=λ{st'} q=>by exact abZ
 unfold iy;split;.exact ab0
 split;.exact V (Ln _)
 split;.exact I (Ln _)
 split;.exact(H _ _ ahE).mono ahE
 split;.exact h.on ahE ((h.bd.w.mono ahE).same (gQ _ _)) (uU _ _)
 split;.exact ab0
 split;.exact I (H _ _ ahE)
 .exact ab1
def yB(h:bK c n L B o x.st)(k:kG c n N L)(I:1100<=B)(H:B<=1000000000000){i:Nat}(hi:i<n):bK c n L (B+4) (o+1) (cD c N x i).st:=by
 unfold cD;split;.exact h.up ahE ahE
 split;.exact h.on ahE ((h.bd.w.mono ahE).load _) (gi _ _)
 .exact yz h k I H hi _
def k7(h:bK c n L B o x.st)(k:kG c n N L)(H:1100<=B){i:Nat}(hi:i<n)(r:Bool):bK c n L (B+4) o (cE c x i r).st/\(cE c x i r).st.s=x.st.s:=by
 unfold cE;split
 .split;.exact⟨h.up ahE (Nat.le_refl _),rfl⟩
  .have q:=h.ask k ahE hi;exact⟨⟨q.bd.mono ahE,q.v,q.len,by show(bz c x.st i).s.ops<=o;rw[gA];exact h.ops⟩,gA _ _ _⟩
 .exact⟨h.up ahE (Nat.le_refl _),rfl⟩
def kE(x:Nu)(i:Nat):(aE x i).st=x.st:=by unfold aE;split<;>rfl
structure NuK(c:CoC)(n N L:Nat)(ml:Nat->Nat):Prop where
 w:kG c n N L
 y:cH c n N ml
 tg:c.tg=2*(N:Int)+2
 len:2*(N:Int)+1<=(L:Int)
 N1:1<=N
structure NuS(c:CoC)(n N L:Nat)(ml:Nat->Nat)(B:Int)(x:Nu):Prop where
 i:NuI c n N ml x
 ok:bK c n L B x.st.s.ops x.st
def rL(c:CoC)(N:Nat)(x:Nu)(kd i:Int):Nu:=
 if okI x.U i then if kd=0 then cD c N x i.toNat else if kd=1 then cE c x i.toNat false else if kd=2 then aE x i.toNat else if kd=3 then cE c x i.toNat true else x else x
def NuS.act(h:NuS c n N L ml B x)(k:NuK c n N L ml)(H:1100<=B)(I:B<=1000000000000)(kd i:Int):NuS c n N L ml (B+4) (rL c N x kd i)/\(rL c N x kd i).st.s.ops<=x.st.s.ops+1/\(kd≠0->(rL c N x kd i).st.s.ops=x.st.s.ops):=by
  have same:NuS c n N L ml (B+4) x:=⟨h.i,h.ok.mono ahE⟩;unfold rL;split
  . rename_i O;have hi:i.toNat<n:=(by obtain⟨V,h1⟩:=O;have:=h.i.lU;omega);split;. rename_i k0;have q:=yB h.ok k.w H I hi;refine⟨⟨h.i.step k.y ⟨k.tg,by rw[h.ok.len];exact k.len⟩ h.ok.bd H I hi,⟨q.bd,q.v,q.len,Nat.le_refl _⟩⟩,q.ops,λe=>absurd k0 e⟩
    split;. have q:=k7 h.ok k.w H hi false;refine⟨⟨h.i.ask k.y hi false,by rw[q.2];exact q.1⟩,by rw[q.2];omega,λ_=>by rw[q.2]⟩
    split;. have e:=kE x i.toNat;refine⟨⟨h.i.leave hi,by rw[e];exact same.ok⟩,by rw[e];omega,λ_=>by rw[e]⟩
    split;. have q:=k7 h.ok k.w H hi true;refine⟨⟨h.i.ask k.y hi true,by rw[q.2];exact q.1⟩,by rw[q.2];omega,λ_=>by rw[q.2]⟩
    . exact⟨same,by omega,λ_=>rfl⟩
  . exact⟨same,by omega,λ_=>rfl⟩
end
section
variable{kg kl par:Nat}{bud:Int}{s:Ar}
def xb(hs:s.W=[])(N:Nat):WdB 0 (smA s N)/\(smA s N).W.length=2*N+1:=by
 have e:(smA s N).W=(s.W++List.replicate (2*N) 0)++List.replicate 1 0:=rfl;rw[hs,List.nil_append]at e;refine⟨λv O=>?_,by rw[e];simp⟩;rw[e]at O;rcases List.mem_append.1 O with h1|h1
 .rw[(List.mem_replicate.1 h1).2];omega
 .rw[(List.mem_replicate.1 h1).2];omega
def DO(hc:a8 P T=0)(H:1<=kg/\kg<=5)(h:1<=kl/\kl<=5)(I:1<=par/\par<=1024)(hs:s.W=[])(hN:1<=(ac P).length):NuK (fh kg kl par bud P T (smA s (ac P).length)) T.length (ac P).length (bC kg kl par P T (smA s (ac P).length)).s.W.length (mtQ P T):=by
  have hw:=uX (bud:=bud) (s:=smA s (ac P).length) hc H h I;have V:=(xb hs (ac P).length).2;have O:(fh kg kl par bud P T (smA s (ac P).length)).tg=2*((ac P).length:Int)+2:=by show(((smA s (ac P).length).W.length+1:Nat):Int)=_;rw[V];omega
  refine⟨hw,uP (bud:=bud) hc H h I,O,?_,hN⟩;have:=hw.tg;rw[O]at this;omega
def Ja(hc:a8 P T=0)(Kz:1<=kg/\kg<=5)(Y:1<=kl/\kl<=5)(hp:1<=par/\par<=1024)(hs:s.W=[]):NuS (fh kg kl par bud P T (smA s (ac P).length)) T.length (ac P).length (bC kg kl par P T (smA s (ac P).length)).s.W.length (mtQ P T) 1100 ⟨bC kg kl par P T (smA s (ac P).length),dr0,List.replicate T.length Sp.zero⟩/\(bC kg kl par P T (smA s (ac P).length)).s.ops<=s.ops+1100:=by
  refine ajL ?_;intro hz NP mP;have hw:∀y:Int,y<=((smA s (ac P).length).W.length:Int)->ldW (bC kg kl par P T (smA s (ac P).length)).s.W y=0:=λy hy=>by exact ab2
  have h:∀i,sv (List.replicate T.length Sp.zero) i=Sp.zero:=svR _;refine⟨⟨⟨wP hc Kz Y hp NP,by simp,λi hi=> .inl ⟨?_,?_⟩,λa V=>?_,λi hi hw=>?_,λi hi h0 O=>?_,λi hi h0 O=>?_⟩,⟨mP.bd,mP.v,mP.len,Nat.le_refl _⟩⟩,mP.ops⟩;. show(sv (List.replicate T.length Sp.zero) i).pc=0;rw[h];rfl
  . show(sv (List.replicate T.length Sp.zero) i).pc=0;rw[h];rfl
  . have hc0:ky (fh kg kl par bud P T (smA s (ac P).length)) T.length (List.replicate T.length Sp.zero) a=0:=(by unfold ky jc;refine List.countP_eq_zero.2 (λj _=>?_);rw[h];simp[jr,Sp.zero]);show ldW _ _=ldW _ _+((ky _ _ (List.replicate T.length Sp.zero) a:Nat):Int);rw[hc0];have g1:=eO V;have g2:=bD V;unfold nuFl at g1 g2;have hl:=hz.2;rw[hw _ aia,hw _ aia];rfl
  . have I:wrP (sv (List.replicate T.length Sp.zero) i):=hw;rw[h]at I;unfold wrP Sp.zero at I;simp at I
  . have H:(sv (List.replicate T.length Sp.zero) i).pc=9:=O;rw[h]at H;simp[Sp.zero]at H
  . have H:(sv (List.replicate T.length Sp.zero) i).pc=10:=O;rw[h]at H;simp[Sp.zero]at H
end
end
section
open Go Go.RowKit
variable{c:CoC}
structure kv where
 ty:TypeId
 pt:TypeId
 md:Int
 step:CoC->Nat->Nu->Nat->Nu
 ask:CoC->Nu->Nat->Bool->Nu
 ok:CoC->Nat->Nat->Nat->(Nat->Nat)->Int->Nu->Prop
def rwQ(q:Nat):Value:= ↑q
def rwC(F:kv)(l:Nat):Array Value:=#[J F.md,.iface F.pt ↑l]
def rwV(q:Nat):Value:= .iface 192 (agg #[↑q])
def kv.Act(F:kv)(B BC:Nat->Prop)(w:World)(a g:Nat)(X:SmX)(c:CoC)(P T:List Int)(x':Nu)(r:Bool)(e:Ending)(w':World):Prop:=
 e= returned (.bool r)/\av F.ty B BC w' a g X c P T x'.st x'.d x'.U/\aa (SmS a g X) w w'
structure kv.Ok(F:kv)(c:CoC)(P T:List Int)(L:Nat):Prop where
 act:∀B x,F.ok c T.length (ac P).length L (mtQ P T) B x->1100<=B->B<=1000000000000->∀i,i<T.length->
  (F.ok c T.length (ac P).length L (mtQ P T) (B+4) (F.step c (ac P).length x i)/\(F.step c (ac P).length x i).st.s.ops<=x.st.s.ops+1)/\
  (∀r,F.ok c T.length (ac P).length L (mtQ P T) (B+4) (F.ask c x i r))/\F.ok c T.length (ac P).length L (mtQ P T) (B+4) (aE x i)
 mono:∀B B' x,F.ok c T.length (ac P).length L (mtQ P T) B x->B<=B'->F.ok c T.length (ac P).length L (mtQ P T) B' x
 lU:∀B x,F.ok c T.length (ac P).length L (mtQ P T) B x->x.U.length=T.length
 safe:∀B x,F.ok c T.length (ac P).length L (mtQ P T) B x->∀i j,i<T.length->j<T.length->(sv x.U i).pc=10->(sv x.U j).pc=10->(sv x.U i).a=0->j=i/\(sv x.U j).a=0
 link:∀B x,F.ok c T.length (ac P).length L (mtQ P T) B x->∀i,i<T.length->0<=(sv x.U i).pc/\((sv x.U i).pc≠0->(sv x.U i).a=0\/(sv x.U i).a=1)
 askS:∀x i r,(F.ask c x i r).st.s=x.st.s
 cS:∀(B BC:Nat->Prop) (w:World) (a g:Nat) (X:SmX) (q:Nat) (x:Nu) (BB:Int) (i:Nat),av F.ty B BC w a g X c P T x.st x.d x.U->F.ok c T.length (ac P).length L (mtQ P T) BB x->1100<=BB/\BB<=10000000000->x.st.s.ops+1<=1000000000000->Blk w q 273 (rwC F X.l)->i<T.length->
  Calls prog 356 #[rwQ q,int i64 i] w (F.Act B BC w a g X c P T (F.step c (ac P).length x i) (dg (sv x.U i) (sv (F.step c (ac P).length x i).U i)))
 cA:∀(B BC:Nat->Prop) (w:World) (a g:Nat) (X:SmX) (q:Nat) (x:Nu) (i:Nat) (r:Bool),av F.ty B BC w a g X c P T x.st x.d x.U->Blk w q 273 (rwC F X.l)->i<T.length->
  Calls prog 352 #[rwQ q,int i64 i,.bool r] w (F.Act B BC w a g X c P T (F.ask c x i r) (decide ((sv x.U i).pc=0)))
 cL:∀(B BC:Nat->Prop) (w:World) (a g:Nat) (X:SmX) (q:Nat) (x:Nu) (i:Nat),av F.ty B BC w a g X c P T x.st x.d x.U->Blk w q 273 (rwC F X.l)->i<T.length->((sv x.U i).pc=10->(sv x.U i).a=0\/(sv x.U i).a=1)->
  Calls prog 353 #[rwQ q,int i64 i] w (F.Act B BC w a g X c P T (aE x i) (decide ((sv x.U i).pc=10)))
 cP:∀(B BC:Nat->Prop) (w:World) (a g:Nat) (X:SmX) (q:Nat) (x:Nu) (i:Nat),av F.ty B BC w a g X c P T x.st x.d x.U->Blk w q 273 (rwC F X.l)->i<T.length->
  Calls prog 355 #[rwQ q,int i64 i] w λe w'=>e= returned (aF (sv x.U i))/\Below w.heap.size w w'
structure RwB where
 B:Nat->Prop
 BC:Nat->Prop
 a:Nat
 g:Nat
 X:SmX
 q:Nat
 bt:Nat
 hi:Nat
def av.farR{ty:TypeId}{B BC:Nat->Prop}{w:World}{a g:Nat}{X:SmX}{st:Co}{d:Dr}{U:List Sp}{S:List Nat}(h:av ty B BC w a g X c P T st d U)(t:aa S w w')(h1:∀i∈S,¬B i/\¬eQ X.x BC i/\i≠X.l/\i≠X.gg)(Y:∀i∈S,i∉SmS a g X):av ty B BC w' a g X c P T st d U:=by have I:∀j,j∈SmS a g X->j∉S:=λj H hm=>Y j hm H;have ha:=I a (by simp[SmS,CoS]);have hg:=I g (by simp[SmS,CoS]);have O:=h.gd.ar.turns t ha hg;have k:=h.co.arAway t (s':=st.s) O (λj H=> .inr (.inr (h1 j H).2.1));have V:X.gg∉S:=λm=>(h1 _ m).2.2.2 rfl;exact {h with lk:=t.blk h.lk (λm=>(h1 _ m).2.2.1 rfl),gd:={h.gd with ar:=O,ga:=t.blk h.gd.ga V,dr:=t.blk h.gd.dr (I _ (by simp[SmS]))},tb:=h.tb.turns t (λj H=>(h1 j H).1),sp:=h.sp.turns t (I _ (by simp[SmS])),co:=k}
def Dy(F:kv)(c:CoC)(P T:List Int)(L:Nat):LkM T.length where
 σ:=Nu
 β:=RwB
 ok:=λst N=>F.ok c T.length (ac P).length L (mtQ P T) (1100+4*N) st/\st.st.s.ops<=N+2000
 ar:=λst=>st.st.s
 sp:=λst i=>sv st.U i
 cn:=λst i=>if (sv st.U i).pc=10 then 1 else 0
 rd:=true
 step:=F.step c (ac P).length
 ask:=F.ask c
 leave:=aE
 bt:=λb=>b.bt
 hi:=λb=>b.hi
 fp:=λb=>SmS b.a b.g b.X
 is:=λb w a g lb st=>av F.ty b.B b.BC w a g b.X c P T st.st st.d st.U/\(b.a=a/\b.g=g)/\jt w lb T.length (10+F.md) (rwV b.q) (SmS b.a b.g b.X) b.bt b.hi/\(Blk w b.q 273 (rwC F b.X.l)/\(b.bt<=b.q/\b.q<b.hi)/\b.q∉SmS b.a b.g b.X)/\∀i,b.B i\/eQ b.X.x b.BC i\/i=b.X.l\/i=b.X.gg->b.bt<=i/\i<b.hi
def oy(x:Nu)(i:Nat):(aE x i).st.s=x.st.s:=by unfold aE;split<;>rfl
def yp{F:kv}(hm:1<=F.md/\F.md<=3)(hc:a8 P T=0)(H:F.Ok c P T L):(Dy F c P T L).Good where
 n32:=by have:=bi (aQ hc).1;exact⟨this.2.2.1,this.2.2.2⟩
 okS:=fun(st:Nu) N i h hN hi=>by
  unfold lkB at hN
  have:=(H.act _ _ h.1 ahE ahE i hi).1
  exact⟨H.mono _ _ _ this.1 ah0,by have:=h.2;have:=(H.act _ _ h.1 ahE ahE i hi).1.2;show(F.step c (ac P).length st i).st.s.ops<=_;omega⟩
 okA:=fun(st:Nu) N i r h hN hi=>by
  unfold lkB at hN
  have:=(H.act _ _ h.1 ahE ahE i hi).2.1 r
  exact⟨H.mono _ _ _ this ah0,by have:=h.2;show(F.ask c st i r).st.s.ops<=_;rw[H.askS];omega⟩
 okL:=fun(st:Nu) N i h hN hi=>by
  unfold lkB at hN
  have:=(H.act _ _ h.1 ahE ahE i hi).2.2
  exact⟨H.mono _ _ _ this ah0,by have:=h.2;show(aE st i).st.s.ops<=_;rw[oy];omega⟩
 okm:=fun(st:Nu) N h=>⟨H.mono _ _ _ h.1 ah0,by have:=h.2;omega⟩
 one:=fun(st:Nu) N i j h hi hj h1 h2 h3=>by
  have e1:(sv st.U i).pc=10:=h1
  have l1:=(H.link _ _ h.1 i hi).2 ahE
  have O:(true&&decide ((sv st.U i).a=1))=false:=h3
  simp only[Bool.true_and,decide_eq_false_iff_not]at O
  exact(H.safe _ _ h.1 i j hi hj h1 h2 ahE).1.symm
 pcs:=fun(st:Nu) N i h hi=>(H.link _ _ h.1 i hi).1
 cnt:=fun(st:Nu) N i h hi=>by
  show(sv st.U i).pc=10↔0<(if (sv st.U i).pc=10 then(1:Int)else 0)
  split<;>simp[*]
 opsS:=fun(st:Nu) N i h hN hi=>by
  unfold lkB at hN
  exact(H.act _ _ h.1 ahE ahE i hi).1.2
 arA:=fun(st:Nu) i r=>H.askS st i r
 arL:=fun(st:Nu) i=>oy st i
 ais:=fun(b:RwB) w a g lb (st:Nu) h=>h.1.gd.ar
 lk:=fun(b:RwB) w a g lb (st:Nu) h=>h.2.2.1.c1
 kd:=fun(b:RwB) w a g lb (st:Nu) h=>⟨_,h.2.2.1.blk.cell 0,(decide_eq_true ahE).symm⟩
 fpa:=fun(b:RwB) w a g lb (st:Nu) h=>⟨λx Y=>(h.2.2.1.fl x Y).2,h.2.2.1.hw⟩
 far:=fun(b:RwB) w a g lb (st:Nu) w' S h t hS=>by
  obtain⟨k,⟨rfl,rfl⟩,hd,hq,hl⟩:=h
  have I:∀x∈S,b.hi<=x\/x<b.bt:=hS
  have V:=hd.fl
  refine⟨k.farR t (λi m=>⟨λz=>?_,λz=>?_,λz=>?_,λz=>?_⟩) (λi m z=>?_),⟨rfl,rfl⟩,hd.far t I,⟨t.blk hq.1 (λm=>by have:=I _ m;have:=hq.2.1;omega),hq.2⟩,hl⟩
  .have:=I i m;have:=hl i (.inl z);omega
  .have:=I i m;have:=hl i (.inr (.inl z));omega
  .have:=I i m;have:=hl i (.inr (.inr (.inl z)));omega
  .have:=I i m;have:=hl i (.inr (.inr (.inr z)));omega
  .have:=I i m;have:=V i z;omega
 cS:=fun(b:RwB) w a g lb (st:Nu) N i h hk hN hi=>by
  unfold lkB at hN
  obtain⟨k,⟨rfl,rfl⟩,hd,hq,hl⟩:=h
  refine(nQ .rw hd.c1 hd.c2 hi (R:=λr w'=>r=dg (sv st.U i) (sv (F.step c (ac P).length st i).U i)/\av F.ty b.B b.BC w' b.a b.g b.X c P T (F.step c (ac P).length st i).st (F.step c (ac P).length st i).d (F.step c (ac P).length st i).U/\aa (SmS b.a b.g b.X) w w') λW bw=>?_).mono ?_
  .refine(H.cS _ _ _ _ _ _ _ _ _ i (k.below bw) hk.1 ahE (by have:=hk.2;omega) (hq.1.below bw hq.1.lt) hi).mono ?_
   exact abn
  .exact ab3
 cA:=fun(b:RwB) w a g lb (st:Nu) N i r h hk hN hi=>by
  obtain⟨k,⟨rfl,rfl⟩,hd,hq,hl⟩:=h
  refine(CY hd.c1 hd.c2 hi r (R:=λq w'=>q=decide ((sv st.U i).pc=0/\(r=true->(true:Bool)=true))/\av F.ty b.B b.BC w' b.a b.g b.X c P T (F.ask c st i r).st (F.ask c st i r).d (F.ask c st i r).U/\aa (SmS b.a b.g b.X) w w') (λW bw=>?_)).mono ?_
  .refine(H.cA _ _ _ _ _ _ _ _ i r (k.below bw) (hq.1.below bw hq.1.lt) hi).mono ?_
   exact abp
  .exact ab3
 cL:=fun(b:RwB) w a g lb (st:Nu) N i h hk hN hi=>by
  obtain⟨k,⟨rfl,rfl⟩,hd,hq,hl⟩:=h
  refine(kA .rw hd.c1 hd.c2 hi (R:=λq w'=>q=decide ((sv st.U i).pc=10)/\av F.ty b.B b.BC w' b.a b.g b.X c P T (aE st i).st (aE st i).d (aE st i).U/\aa (SmS b.a b.g b.X) w w') λW bw=>?_).mono ?_
  .refine(H.cL _ _ _ _ _ _ _ _ i (k.below bw) (hq.1.below bw hq.1.lt) hi (λe=>(H.link _ _ hk.1 i hi).2 ahE)).mono ?_
   exact abn
  .exact ab3
 cP:=fun(b:RwB) w a g lb (st:Nu) i h hi=>nO .rw h.2.2.1.c1 h.2.2.1.c2 hi _ λW bw=>H.cP _ _ _ _ _ _ _ _ i (h.1.below bw) (h.2.2.2.1.1.below bw h.2.2.2.1.1.lt) hi
 cC:=fun(b:RwB) w a g lb (st:Nu) i h hi=>nM .rw h.2.2.1.c1 h.2.2.1.c2 hi _ λW bw=>H.cP _ _ _ _ _ _ _ _ i (h.1.below bw) (h.2.2.2.1.1.below bw h.2.2.2.1.1.lt) hi
end
section
open Go.RowKit
structure SmB(B BC:Nat->Prop)(w0 w:World)(a g:Nat)(X:SmX)(c:CoC)(P T:List Int)(st:Co)(d:Dr)(U:List Sp)(bx:Nat):Prop where
 is:av 330 B BC w a g X c P T st d U
 bk:Blk w bx 274 #[↑X.l]
 nS:bx∉SmS a g X
 tn:aa (SmS a g X) w0 w
section
variable{B BC:Nat->Prop}{w:World}{a g bx:Nat}{X:SmX}{c:CoC}{st st':Co}{d d':Dr}{U:List Sp}{s':Ar}
def av.lts(h:av 330 B BC w a g X c P T st d U):∀r∈SmS a g X,r<w.heap.size:=by exact ab9
def SmB.to(h:SmB B BC w0 w a g X c P T st d U bx)(k:av 330 B BC w' a g X c P T st' d' U)(t:aa (SmS a g X) w w'):SmB B BC w0 w' a g X c P T st' d' U bx:=⟨k,t.blk h.bk h.nS,h.nS,h.tn.trans t⟩
def SmB.drew(h:SmB B BC w0 w a g X c P T st d U bx):SmB B BC w0 w.drew a g X c P T st d U bx:=h.to (h.is.below (Below.refl _ _).drew) (aa.refl _ _).drew
def SmB.new(h:av 330 B BC w a g X c P T st d U):SmB B BC w (w.alloc (cells #[↑X.l] 274)) a g X c P T st d U w.heap.size:=
 ⟨h.below ((Below.refl _ _).alloc (Nat.le_refl _) _),Blk.new w _ _,λk=>by have:=h.lts _ k;omega,(aa.refl _ _).alloc _⟩
def SmB.cs(h:SmB B BC w0 w a g X c P T st d U bx):w.cell? bx=some ↑X.l/\w.cell? X.l=some ↑a/\Z w X.l 1 ↑X.b/\Z w X.l 3 ↑X.dd/\Z w X.l 4 (J (2*((ac P).length:Int)+1)):=⟨h.bk.cell 0,h.is.cs.1,h.is.cs.2.1,h.is.cs.2.2.2.1,h.is.cs.2.2.2.2.1⟩
def SmB.ag(h:SmB B BC w0 w a g X c P T st d U bx)(t:aa [a,g] w w')(H:aB w' a g s'):SmB B BC w0 w' a g X c P T (onA st s') d U bx:=h.to (h.is.arT t H) (fo t)
def SmB.gd(h:SmB B BC w0 w a g X c P T st d U bx)(t:aa [a,g,X.dd] w w')(k:GD w' a g X.gg X.dd (ac P).length s' d'):SmB B BC w0 w' a g X c P T (onA st s') d' U bx:=h.to (h.is.gdT t k) (jk t)
def SmB.co(h:SmB B BC w0 w a g X c P T st d U bx)(t:aa (CoS a g X.x) w w')(k:aC BC w' a g X.x c P T st'):SmB B BC w0 w' a g X c P T st' d U bx:=h.to (h.is.coT t k) (gZ t)
def av.node(h:av 330 B BC w a g X c P T st d U)(hn:n<T.length):(c.node n)<(ac P).length/\(ao P T T.length)[n]? =some ((c.node n:Nat):Int):=by exact aca
def Ex(h:SmB B BC w0 w a g X c P T st d U bx)(v:Int)(Y:st.s.ops+1<=1000000000000):E 370 #[J v,↑bx] w λe w'=>e= returned (tuple #[])/\SmB B BC w0 w' a g X c P T (onA st (ae st.s (nuFl (ac P).length) v)) d U bx:=by
 have O:=qh (λW (k:SmB B BC w0 W a g X c P T st d U bx)=>am k.is.gd.ar (2*((ac P).length:Int)+1) v Y);have N1:=qh h.drew;clear h;go_enter func370,ntmps370;go_wp2_with fail
 go_region_held3 (λW=>W.cell? bx=some ↑X.l/\W.cell? X.l=some ↑a/\Z W X.l 4 (J (2*((ac P).length:Int)+1)))
  (first|exact⟨N1.o.cs.1,N1.o.cs.2.1,N1.o.cs.2.2.2.2⟩|exact⟨H.o.cs.1,H.o.cs.2.1,H.o.cs.2.2.2.2⟩)
  (first
   |(go_at_call 177;go_loud (refine Op (O.o _ N1.o) λw3 I=>?_);have H:=qh (N1.o.ag I.o.2 I.o.1)))
 go_wp2;go_end0;exact⟨rfl,H.o⟩
def tY(B BC:Nat->Prop)(w:World)(a g:Nat)(X:SmX)(c:CoC)(P T:List Int)(r:Co×Dr×Bool)(U:List Sp)(e:Ending)(w':World):Prop:=
 e= returned (.bool r.2.2)/\av 330 B BC w' a g X c P T r.1 r.2.1 U/\aa (SmS a g X) w w'
def Gw{pc:Int}{h:Co}{d0:Dr}(k:SmB B BC w w' a g X c P T st' d' U bx)(H:iy c (ac P).length ⟨h,d0,U⟩ n pc=(st',d',r)):tY B BC w a g X c P T (iy c (ac P).length ⟨h,d0,U⟩ n pc) U (returned (.bool r)) w':=by rw[H];exact⟨rfl,k.is,k.tn⟩
def wB(h:Q:=by
    go_wp2
    go_ret
    exact Gw N3.o (by first|rfl|(rw[HQ.o];rfl))):Q:=h
def Gt(h:Q:=by
    have l5:=N2.o.is.cs.2.2.2.2.2.1
    have l0:=N2.o.bk.cell 0
    go_wp2_with fail
    refine Op (HL.o _ N2.o) λw3 k3=>?_
    have N3:=qh (N2.o.co k3.o.2 k3.o.1)
    exact wB):Q:=h
def C1(h:Q:=by
    go_wp2_with fail
    refine Op (HG.o _ N0.o) λw2 a2=>?_
    have N3:=qh (N0.o.ag a2.o.2 a2.o.1)
    have N2:=N3
    first
      | exact Gt
      | exact wB):Q:=h
def Gu(h:Q:=by
    go_wp2_with fail
    refine(HL.o _ N0.o).mono ?_
    rintro en w4 ⟨rfl,k4,t4⟩
    first
      | have N3:=qh (N0.o.co t4 k4)
      | have N3:=qh (N0.o.gd t4 k4)
    clear k4 t4
    exact wB):Q:=h
def E3(h:av 330 B BC w a g X c P T st d U)(n:Nat)(hn:n<T.length)(pc:Int)(H':(sv U n).pc=pc)(Y:st.s.ops+1<=1000000000000)(hN:1<=(ac P).length)(I:pc=9->d.busy=true->d.at_<(ac P).length)(C:dc BB X.x c st)(JP:pc=1\/pc=11\/pc=3\/pc=5\/pc=12\/pc=8\/pc=9\/pc=4\/pc=6\/pc=7\/pc=13):E 368 #[↑X.l,J n] w (tY B BC w a g X c P T (iy c (ac P).length ⟨st,d,U⟩ n pc) U):=by
 have hp:=h.thr hn;obtain⟨O,JB⟩:=h.node hn;have hx:=h.nT;have N0:=qh (SmB.new h);have Lz:=qh (kq (w.alloc (cells #[↑X.l] 274)) X.b P T n hn N0.o.is.tb.f _ JB);have t2:¬(n:Int)<0:=by omega
 have hl:=h.lk.lt;have hq:=h.sp.lt;have JG:n<X.x.n:=by rw[hx.1];exact hn
 obtain⟨p,i'⟩:=LE (sv U n);rw[<-i']at hp H';obtain⟨pc,u,b,z⟩:=p;simp only at H';subst H';have a0:=ST (N0.o.is.sp.cell hp 0 _ rfl);have d2:=N0.o.is.cs.2.2.1;have d3:=N0.o.is.cs.2.2.2.1;have d5:=N0.o.is.cs.2.2.2.2.2.1;have d6:=N0.o.is.cs.2.2.2.2.2.2;have HA:=qh (show 2*((c.node n:Nat):Int)+1=gaA (c.node n)/\2*((c.node n:Nat):Int)+1+1=gaW (c.node n)by unfold gaA gaW;omega);have GE:=λW (k:SmB B BC w W a g X c P T (st) d U w.heap.size)=>qI k.is.gd.ga k.is.gd.ar (c.node n) O k.is.gd.n32 Y;have GX:=λW (k:SmB B BC w W a g X c P T (st) d U w.heap.size)=>qJ k.is.gd.ga k.is.gd.ar (c.node n) O k.is.gd.n32 Y;simp only[HA.o.1,HA.o.2]at GE GX;have HH:=qh (And.intro GE GX);clear h hp i' JB O GE GX HA;go_enter func368,ntmps368;have e1:=N0.o.cs;go_wp2_with fail;refine LT Lz.o ?_;clear Lz;rcases JP with rfl|rfl|rfl|rfl|rfl|rfl|rfl|rfl|rfl|rfl|rfl
 .have HG:=qh HH.o.1;exact C1
 .have HG:=qh HH.o.2;exact C1
 .have HG:=qh HH.o.2;have HL:=qh (λW (k:SmB B BC w W a g X c P T (onA st (addA st.s (gaW (c.node n)) 1)) d U w.heap.size)=>rQ k.is.co n JG);exact C1
 .have HG:=qh HH.o.1;have HL:=qh (λW (k:SmB B BC w W a g X c P T (onA st (addA st.s (gaA (c.node n)) 1)) d U w.heap.size)=>kT k.is.co n JG);exact C1
 .have HG:=qh (λW (k:SmB B BC w W a g X c P T (st) d U w.heap.size)=>Ex k 0 Y);have HL:=qh (λW (k:SmB B BC w W a g X c P T (onA st (ae st.s (nuFl (ac P).length) 0)) d U w.heap.size)=>kT k.is.co n JG);go_wp2_with fail;refine Op (HG.o _ N0.o) λw2 N2=>?_;exact Gt
 .have HG:=qh (λW (k:SmB B BC w W a g X c P T (st) d U w.heap.size)=>Ex k 1 Y);have HL:=qh (λW (k:SmB B BC w W a g X c P T (onA st (ae st.s (nuFl (ac P).length) 1)) d U w.heap.size)=>mK k.is.gd hN false);have Np:=qh (λW (k:SmB B BC w W a g X c P T (onA st (ae st.s (nuFl (ac P).length) 1)) d U w.heap.size)=>kZ W X.b P T k.is.tb.f);go_wp2_with fail;refine Op (HG.o _ N0.o) λw2 N2=>?_;have OR:=qh N2.o.drew;go_wp2_with fail
  go_region_held3 (λW=>W.cell? w.heap.size=some ↑X.l/\Z W X.l 1 ↑X.b/\Z W X.l 3 ↑X.dd)
   (first|exact⟨OR.o.cs.1,OR.o.cs.2.2.1,OR.o.cs.2.2.2.1⟩|exact⟨N3.o.cs.1,N3.o.cs.2.2.1,N3.o.cs.2.2.2.1⟩)
   (first
    |(go_at_call 137;go_loud (refine LT (Np.o _ OR.o) ?_))
    |(go_at_call 373;go_loud (refine Op (HL.o _ OR.o) λw4 k4=>?_);have N3:=qh (OR.o.gd k4.o.2 k4.o.1)))
  exact wB
 .have H:=λW (k:SmB B BC w W a g X c P T (st) d U w.heap.size)=>mL k.is.gd (I rfl) Y;obtain⟨r,V⟩:=LE (ai st.s d);rw[<-V]at H;have HL:=qh H;have HQ:=qh V;clear V H;exact Gu
 all_goals have H:=λW (k:SmB B BC w W a g X c P T (st) d U w.heap.size)=>mn k.is.co C n JG;obtain⟨q,Pc⟩:=LE (bo (sv st.T n) (sv (aj c st n).T n));rw[<-Pc]at H;have HL:=qh H;have HQ:=qh Pc;clear Pc H;exact Gu
end
end
section
open Go.RowKit
def FG(w:World)(pc:Int)(h:pc=1\/pc=3\/pc=4\/pc=5\/pc=6\/pc=7\/pc=8\/pc=9\/pc=11\/pc=12\/pc=13):E 369 #[J pc] w λe w'=>e= returned (J (rh pc))/\w=w':=by
 rcases h with rfl|rfl|rfl|rfl|rfl|rfl|rfl|rfl|rfl|rfl|rfl
 all_goals go_enter func369,ntmps369;go_wp2;go_ret;exact⟨rfl,rfl⟩
section
variable{B BC:Nat->Prop}{w:World}{a g:Nat}{X:SmX}{c:CoC}{st st':Co}{d d':Dr}{U:List Sp}{s':Ar}
def xe(h:av 330 B BC w a g X c P T st d U)(n:Nat)(hn:n<T.length)(hc:(sv U n).pc=0\/(sv U n).pc=10):E 365 #[↑X.l,J n] w (au 330 B BC w a g X c P T U n (cD c (ac P).length ⟨st,d,U⟩ n)):=by
 have JL:=aM;have I:=oQ h n;have Y:=h.thr hn;have hg:getS U (n:Int)=sv U n:=by exact abV
 rw[hg]at I;refine ajy ?_;intro H t2 LU x' p i' mT;rw[if_pos hc]at mT;rw[<-i']at hc I Y;have V:=qh I;have HX:=qh mT;clear h Y i' mT hg I;obtain⟨pc,u,b,z⟩:=p;simp only at hc;unfold aF at V;rcases hc with rfl|rfl
 all_goals go_enter func365,ntmps365;go_wp2_with fail;refine Op V.o λw1 O=>?_;go_wp2;go_ret;rw[HX.o];first|exact au.stay (H.o.below O.o) (aa.of_below O.o) rfl|exact au.put HP.o (H.o.below O.o) (aa.of_below O.o) rfl ahO
def D6(h:av 330 B BC w a g X c P T st d U)(n:Nat)(hn:n<T.length)(hc:(sv U n).pc=2)(Y:st.s.ops+1<=1000000000000):E 365 #[↑X.l,J n] w (au 330 B BC w a g X c P T U n (cD c (ac P).length ⟨st,d,U⟩ n)):=by
  have JL:=aM;have V:=oQ h n;have hp:=h.thr hn;have hg:getS U (n:Int)=sv U n:=by exact abV
  rw[hg]at V;refine ajy ?_;intro H t2 LU x' p i' mT;rw[if_neg ahE,if_pos hc]at mT;rw[<-i']at hc V hp mT;have HS:=qh V;have I:=qh hp;obtain⟨pc,u,b,z⟩:=p;simp only at hc mT;subst hc;obtain⟨q,hq⟩:=LE (ldW st.s.W (nuFl (ac P).length));obtain⟨ab,hv⟩:=LE (af st.s (nuFl (ac P).length));have hr:=(λW (k:av 330 B BC W a g X c P T st d U)=>aD k.gd.ar (nuFl (ac P).length) Y);rw[<-hq,<-hv]at hr;rw[<-hq,<-hv]at mT;have HX:=qh mT;have HC:=qh (λW st (k:av 330 B BC W a g X c P T st d U)=>And.intro k.cs.1 k.cs.2.2.2.2.1);have HO:=qh hr;clear h hp i' mT hg V hq hv hr;unfold aF at HS;cases hz:(q==0)
  all_goals
    go_enter func365,ntmps365;go_wp2_with fail;refine Op HS.o λw1 b1=>?_;have K0:=qh (H.o.below b1.o);have K1:=qh (H.o.below b1.o.drew);have T1:=qh (aa.of_below (S:=SmS a g X) b1.o.drew);have d6:=K0.o.cs.2.2.2.2.2.2;go_wp2_with fail;first
    | (go_region_held3 (λW=>W.cell? X.l=some ↑a/\Z W X.l 4 (J (2*((ac P).length:Int)+1)))
        (first|exact HC.o _ _ K1.o|exact HC.o _ _ O.o)
        (first
          | (go_at_call 173;go_loud (refine Op (HO.o _ K1.o) λw3 a3=>?_);have O:=qh (K1.o.arT a3.o.2 a3.o.1);have T2:=qh (T1.o.trans (fo a3.o.2)))))
    | fail "held"
  all_goals
    have e0:=ST (O.o.sp.cell I.o 0 _ rfl);have z0:=O.o.sp.free (n*4)
    first
      | (have K3:=qh (O.o.put0 I.o (p':=(⟨10,u,b,z⟩:Sp)) (u:= J 10) rfl)
         go_wp2
         go_ret
         rw[HX.o,if_pos ah3]
         exact au.put I.o K3.o (T2.o.trans (dW _ _)) rfl (by first|rfl|decide))
      | (have K3:=qh (O.o.put0 I.o (p':=(⟨3,u,b,z⟩:Sp)) (u:= J 3) rfl)
         go_wp2
         go_ret
         rw[HX.o,if_neg ah3]
         exact au.put I.o K3.o (T2.o.trans (dW _ _)) rfl (by first|rfl|decide))
def D7(h:av 330 B BC w a g X c P T st d U)(n:Nat)(hn:n<T.length)(pc u b z:Int)(hU:sv U n=⟨pc,u,b,z⟩)(hc:pc=1\/pc=3\/pc=4\/pc=5\/pc=6\/pc=7\/pc=8\/pc=9\/pc=11\/pc=12\/pc=13)(hD:∀W,av 330 B BC W a g X c P T st d U->E 368 #[↑X.l,J n] W (tY B BC W a g X c P T (iy c (ac P).length ⟨st,d,U⟩ n pc) U)):E 365 #[↑X.l,J n] w (au 330 B BC w a g X c P T U n (cD c (ac P).length ⟨st,d,U⟩ n)):=by
  have JL:=aM;have F':=oQ h n;have hp:=h.thr hn;have hg:getS U (n:Int)=sv U n:=by exact abV
  rw[hg]at F';refine ajy ?_;intro H t2 LU x' p i' mT;have O:p=⟨pc,u,b,z⟩:=by rw[i',hU]
  subst O;rw[<-i',if_neg (show ¬(pc=0\/pc=10)by omega),if_neg (show ¬pc=2 by omega)]at mT;rw[<-i']at F' hp;have u0:(pc==0)=false:=by simp;omega
  have u1:(pc==10)=false:=by simp;omega
  have u2:(pc==2)=false:=by simp;omega
  have Oh:=qh (λW=>FG W pc hc);obtain⟨r,V⟩:=LE (iy c (ac P).length ⟨st,d,U⟩ n pc);rw[<-V]at hD mT;obtain⟨s1,d1,q⟩:=r;obtain⟨v,TA⟩:=LE (rh pc);rw[<-TA]at Oh;unfold nuTo at mT;simp only at mT;rw[<-TA]at mT;have HX:=qh mT;have HS:=qh F';have I:=qh hp;have HD:=qh hD;clear h hp i' mT hg F' hD V TA hU hc;unfold aF at HS;cases q;. skip;go_enter func365,ntmps365;go_wp2_with fail;refine ajT ?_;intro w1 b1 K1 T1 K0;have d6:=K0.o.cs.2.2.2.2.2.2;go_wp2_with fail;refine wp_region_held_drew (S:=(λ_=>True)) ahH (by exact trivial) (λhHeld=>?_);refine aja ?_;refine tk 9 ?_;refine aj9 ?_;refine tk 14 ?_;refine wpAnyH_done ahH ?_ _;go_wp2_with fail;refine Op (HD.o _ K1.o) λw3 k3=>?_;have Y:=qh k3.o.1;have T3:=qh (T1.o.trans k3.o.2);go_wp2;go_ret;rw[HX.o];refine au.put I.o (p':=⟨pc,u,b,z⟩) ?_ T3.o rfl (ie _);have k:=Y.o;rw[<-b9 I.o]at k;exact k
  . cases v1:(v==10)<;>cases v2:(v==0);all_goals go_enter func365,ntmps365;go_wp2_with fail;refine ajT ?_;intro w1 b1 K1 T1 K0;have d6:=K0.o.cs.2.2.2.2.2.2;go_wp2_with fail;refine wp_region_held_drew (S:=(λ_=>True)) ahH (by exact trivial) (λhHeld=>?_);refine aja ?_;refine tk 9 ?_;refine aj9 ?_;refine tk 14 ?_;refine wpAnyH_done ahH ?_ _;go_wp2_with fail;refine Op (HD.o _ K1.o) λw3 k3=>?_;have Y:=qh k3.o.1;have T3:=qh (T1.o.trans k3.o.2);have e0:=ST (Y.o.sp.cell I.o 0 _ rfl);have z0:=Y.o.sp.free (n*4);have K4:=qh (Y.o.put0 I.o (p':=(⟨v,u,b,z⟩:Sp)) (u:= J v) rfl);go_wp2_with fail;refine LT (Oh.o _) ?_;go_wp2;go_ret;rw[HX.o];first|exact au.stay (K4.o) (T3.o.trans (dW _ _)) rfl|exact au.put I.o (K4.o) (T3.o.trans (dW _ _)) rfl ahO
def D3(h:av 330 B BC w a g X c P T st d U)(n:Nat)(V:n<T.length)(hc:gS (sv U n) (sv st.T n))(Y:st.s.ops+1<=1000000000000)(hN:1<=(ac P).length)(I:(sv U n).pc=9->d.busy=true->d.at_<(ac P).length)(C:dc BB X.x c st):E 365 #[↑X.l,J n] w (au 330 B BC w a g X c P T U n (cD c (ac P).length ⟨st,d,U⟩ n)):=by
  obtain⟨p,i'⟩:=LE (sv U n)
  have JP:p.pc=0\/p.pc=10\/p.pc=2\/p.pc=1\/p.pc=3\/p.pc=4\/p.pc=5\/p.pc=6\/p.pc=7\/p.pc=8\/p.pc=9\/p.pc=11\/p.pc=12\/p.pc=13:=by
    rw[<-i']at hc;unfold gS at hc;rcases hc with⟨q1,_⟩|⟨_,H,_⟩|⟨_,H,_⟩|⟨_,H,_⟩|⟨_,H,_⟩|⟨_,H,_⟩|⟨_,H,_⟩|⟨_,H,_⟩
    all_goals omega
  obtain⟨pc,u,b,z⟩:=p;have O:(sv U n).pc=pc:=by rw[<-i']
  simp only at JP;rcases JP with rfl|rfl|rfl|rfl|rfl|rfl|rfl|rfl|rfl|rfl|rfl|rfl|rfl|rfl
  . exact xe h n V (.inl O)
  . exact xe h n V (.inr O)
  . exact D6 h n V O Y
  all_goals exact D7 h n V _ u b z i'.symm ahG (λW k=>E3 k n V _ O Y hN (λe=>I (O.trans e)) C ahG)
end
end
section
open Go.RowKit
section
variable{B BC:Nat->Prop}{w:World}{a g:Nat}{X:SmX}{c:CoC}{st st':Co}{d d':Dr}{U:List Sp}{s':Ar}
def IJ(h:av 335 B BC w a g X c P T st d U):E 390 #[↑X.l] w λe w'=>e= returned (J T.length)/\w=w':=by have c6:=h.cs.2.2.2.2.2.2;clear h;go_enter func390,ntmps390;exact aaa
def AL(h:av 335 B BC w a g X c P T st d U)(i:Int)(r:Bool)(V:r=decide (okI U i)):E 391 #[↑X.l,J i] w λe w'=>e= returned (.bool r)/\w=w':=by
 have HT:=qh (IJ h);have Jy:=h.lU;clear h;by_cases h0:0<=i
 .by_cases h1:i<T.length;.refine aka ?_;intro e;subst e;clear V;go_enter func391,ntmps391;exact aad
  .have e:r=false:=(by rw[V];exact decide_eq_false (λk=>h1 aiE));subst e;clear V;go_enter func391,ntmps391;exact abM
 .have e:r=false:=by rw[V];exact decide_eq_false (λk=>h0 k.1)
  subst e;clear V;go_enter func391,ntmps391;exact aaa
def oS(h:av 335 B BC w a g X c P T st d U)(i:Int):E 388 #[↑X.l,J i] w λe w'=>e= returned (aF (getS U i))/\Below w.heap.size w w':=by
  refine ajr ?_;intro I H Ju Jx Jy;by_cases O:okI U i;. have V:=qh (AL I i true (decide_eq_true O).symm);have hp:=dG O;obtain⟨p,i'⟩:=LE (getS U i);rw[<-i']at hp ⊢;have c6:=h.cs.2.2.2.2.2.2;refine ai1 ?_;intro a0 a1 a2 a3;obtain⟨Y,h1⟩:=id O;rw[Jy]at h1;obtain⟨n,rfl⟩:=Int.eq_ofNat_of_zero_le Y;simp only[Int.toNat_natCast]at a0 a1 a2 a3;have t2:¬(n:Int)<0:=(by omega);have t4:n<T.length:=(by omega);clear h I hp i' Y h1 O Jy;go_enter func388,ntmps388;go_wp2_with (go_at_call 391;refine V.o.mono ?_;rintro e w' ⟨rfl,rfl⟩);exact bodyPost_ret (results_cell_row ahI _ _ w.heap.size 113 _ (0,0) _ ahI (heap_alloc_new w _) Tryz.underlying113 rfl ahH) rfl ⟨rfl,(Below.refl _ _).alloc (Nat.le_refl _) _⟩
  . have V:=qh (AL I i false (decide_eq_false O).symm);rw[dz O];clear h I O Jy;go_enter func388,ntmps388;go_wp2_with (go_at_call 391;refine V.o.mono ?_;rintro e w' ⟨rfl,rfl⟩);exact bodyPost_ret (results_cell_row ahI _ _ w.heap.size 113 _ (0,0) _ ahI (heap_alloc_new w _) Tryz.underlying113 rfl ahH) rfl ⟨rfl,(Below.refl _ _).alloc (Nat.le_refl _) _⟩
end
end
section
open Go.RowKit
section
variable{B BC:Nat->Prop}{w:World}{a g:Nat}{X:SmX}{c:CoC}{st st':Co}{d d':Dr}{U:List Sp}{s':Ar}
def EQ(h:av 335 B BC w a g X c P T st d U)(n:Nat)(hn:n<T.length)(r:Bool):E 385 #[↑X.l,J n,.bool r] w (au 335 B BC w a g X c P T U n (cE c ⟨st,d,U⟩ n r)):=by
 have mP:okI U (n:Int):=⟨by omega,by rw[h.lU];omega⟩;have HH:=qh (AL h n true (decide_eq_true mP).symm);have hp:=h.thr hn;have H:=qh h;have V:=h.nT;have HA:=qh (rQ h.co n (by rw[V.1];exact hn));obtain⟨x',O⟩:=LE (cE c ⟨st,d,U⟩ n r);rw[<-O];unfold cE at O;obtain⟨p,Y⟩:=LE (sv U n);simp only at O;rw[<-Y]at hp O;have c6:=h.cs.2.2.2.2.2.2;have c5:=h.cs.2.2.2.2.2.1;refine ai1 ?_;intro a0 a1 a2 a3;have f1:∀j,w.frozen? ⟨X.q,j,none⟩=false:=λj=>h.sp.free j;have t2:¬(n:Int)<0:=by omega
 have HX:=qh O;have HP:=qh hp;clear h hp Y mP V O;by_cases I:p.pc=0
 .have y1:(p.pc !=0)=false:=by simpa using I
  have HP0:=qh I;clear I;cases r;.go_enter func385,ntmps385;exact abS
  .go_enter func385,ntmps385;exact abT
 .have y1:(p.pc !=0)=true:=by simpa using I
  have HP0:=qh I;clear I;go_enter func385,ntmps385;exact abU
def Bd(h:av 335 B BC w a g X c P T st d U)(n:Nat)(hn:n<T.length)(I:(sv U n).pc=10->(sv U n).a=0\/(sv U n).a=1):E 386 #[↑X.l,J n] w (au 335 B BC w a g X c P T U n (aE ⟨st,d,U⟩ n)):=by
 have JL:=aM;have O:=oS h n;have Y:=h.thr hn;have hg:getS U (n:Int)=sv U n:=by exact abV
 rw[hg]at O;refine aj6 ?_;intro H x' p i' mT;rw[<-i']at Y mT O I;have HS:=qh O;have HP:=qh Y;refine aj0 ?_;intro t2 LU;clear h Y i' hg O;obtain⟨pc,u,b,z⟩:=p;simp only at I mT;unfold aF at HS;by_cases V:pc=10
 .subst V;have Ku:=I rfl;rw[if_pos rfl]at mT;clear I;rcases Ku with rfl|rfl
  .have HX:Kq (x'=⟨st,d,U.set n ⟨12,0,b,z⟩⟩):=qh mT;have x1:IntKind.i64.wrap 12=12:=IntWalk.i64_in _ ahE;clear mT;go_enter func386,ntmps386;go_wp2_with fail;refine ajb ?_;intro w1 b1 K1 T1;have e0:=ST (K1.o.sp.cell HP.o 0 _ rfl);have z0:=K1.o.sp.free (n*4);have d6:=K1.o.cs.2.2.2.2.2.2;have l1:=K1.o.lk.lt;have l2:=K1.o.sp.lt;go_wp2;go_ret;rw[HX.o];first|exact au.stay ((K1.o.put0 HP.o (p':=(⟨12,0,b,z⟩:Sp)) rfl).below ((Below.refl _ _).alloc (Nat.le_refl _) _)) ((T1.o.trans (dW _ _)).alloc _) rfl|exact au.put HP.o ((K1.o.put0 HP.o (p':=(⟨12,0,b,z⟩:Sp)) rfl).below ((Below.refl _ _).alloc (Nat.le_refl _) _)) ((T1.o.trans (dW _ _)).alloc _) rfl ahO
  .have HX:Kq (x'=⟨st,d,U.set n ⟨11,1,b,z⟩⟩):=qh mT;have x1:IntKind.i64.wrap 11=11:=IntWalk.i64_in _ ahE;clear mT;go_enter func386,ntmps386;go_wp2_with fail;refine ajb ?_;intro w1 b1 K1 T1;have e0:=ST (K1.o.sp.cell HP.o 0 _ rfl);have z0:=K1.o.sp.free (n*4);have d6:=K1.o.cs.2.2.2.2.2.2;have l1:=K1.o.lk.lt;have l2:=K1.o.sp.lt;go_wp2;go_ret;rw[HX.o];first|exact au.stay ((K1.o.put0 HP.o (p':=(⟨11,1,b,z⟩:Sp)) rfl).below ((Below.refl _ _).alloc (Nat.le_refl _) _)) ((T1.o.trans (dW _ _)).alloc _) rfl|exact au.put HP.o ((K1.o.put0 HP.o (p':=(⟨11,1,b,z⟩:Sp)) rfl).below ((Below.refl _ _).alloc (Nat.le_refl _) _)) ((T1.o.trans (dW _ _)).alloc _) rfl ahO
 .have y1:(pc !=10)=true:=by simpa using V
  have HX:=qh mT;have HP0:=qh V;clear V I mT;go_enter func386,ntmps386;exact acb
end
end
end Go.Proofs.YtglokdbiggbkjaaGreat
