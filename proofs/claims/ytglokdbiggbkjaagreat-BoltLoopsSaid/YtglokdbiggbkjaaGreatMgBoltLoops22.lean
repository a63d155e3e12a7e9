/- Joined texts. -/
import Derived.Test.YtglokdbiggbkjaaGreatMgBoltLoops0
import Derived.Test.YtglokdbiggbkjaaGreatMgBoltLoops14
import Derived.Test.YtglokdbiggbkjaaGreatMgBoltLoops20
set_option linter.unusedVariables false
set_option linter.unusedSimpArgs false
set_option linter.defProp false
set_option maxRecDepth 100000
set_option maxHeartbeats 16000000
open Go.Proofs.Tryz
namespace Go.Proofs.YtglokdbiggbkjaaGreat
open Go.IntKind(i64)
open Go.Value(int bool slice agg tuple pointer)
open Go.Ending(returned)
open Go.Obj(cells)
variable{n:Nat}{W:List Int}
section
open Go
variable{h:Cn}
def aN(W:List Int)(x:Int):Int:=if 1<=x then ldW W (cN x)else 0
def aS(W:List Int)(x:Int):Int:=if 1<=x then ldW W (cS x)else 0
def aL(W:List Int)(x:Int):Int:=if 1<=x then ldW W (cL x)else 0
def WkB(n:Nat)(w:Wk):Prop:=(0<=w.last/\w.last<=n)/\(0<=w.found/\w.found<=n)/\0<=w.passed/\w.passed<=n
theorem uJ{node:Nat->Int}{w:Wk}(hw:WkB n w)(x:Int):WkB n (dR n node w x)/\((dR n node w x).way=true->1<=(dR n node w x).last)/\(1<=w.last->1<=(dR n node w x).last):=by
 unfold dR;repeat' split
 all_goals grind [WkB]
abbrev G0(S:Int->Int)(σ:Nat->Sp):Nat->Prop:=jg 6 (λv=>v≠0) S σ
structure CtI(n:Nat)(t:Int)(N S L:Int->Int)(w:Wk)(σ:Nat->Sp):Prop where
 tk:jl n (G0 S σ) (t=0)
 v1:0<=t/\t<=n
 vN:∀x:Int,1<=x->x<=n->0<=N x/\N x<=n
 vL:∀x:Int,1<=x->x<=n->0<=L x/\L x<=n
 vS:∀x:Int,1<=x->x<=n->-1<=S x/\S x<=n/\(0<S x->1<=L (S x))
 wb:WkB n w
 pcs:∀i,i<n->(0<=(σ i).pc/\(σ i).pc<=6)\/(10<=(σ i).pc/\(σ i).pc<=30)
 sp:∀i,i<n->(-1<=(σ i).a/\(σ i).a<=n)/\(-1<=(σ i).b/\(σ i).b<=n)
 a1:∀i,i<n->(σ i).pc=4\/(17<=(σ i).pc/\(σ i).pc≠28)->1<=(σ i).a
 b1:∀i,i<n->(14<=(σ i).pc/\(σ i).pc<=15)\/(20<=(σ i).pc/\(σ i).pc<=22)\/(25<=(σ i).pc/\(σ i).pc<=28)->1<=(σ i).b
 c1:∀i,i<n->(σ i).pc=15\/(σ i).pc=21\/(σ i).pc=26->1<=(σ i).c/\(σ i).c<=n
 gd:∀i,i<n->12<=(σ i).pc/\(σ i).pc≠22->0<(σ i).b->1<=L (σ i).b
 w1:∀i,i<n->18<=(σ i).pc/\(σ i).pc<=22->1<=w.last
 w3:∀i,i<n->(σ i).pc=18->w.way=true
 w2:∀i,i<n->19<=(σ i).pc/\(σ i).pc<=22->1<=w.found
structure CtS(n:Nat)(h:Cn):Prop where
 i:CtI n (ldW h.ar.W 1) (aN h.ar.W) (aS h.ar.W) (aL h.ar.W) h.wk (sv h.S)
 len:h.S.length=n
 wln:h.ar.W.length=2+3*n
section
variable{t t':Int}{N N' S S' L L':Int->Int}{w w':Wk}{σ σ':Nat->Sp}
theorem CtI.upd(h:CtI n t N S L w σ){i:Nat}{p:Sp}(hi:i<n)(hs:∀j,σ' j=if j=i then p else σ j)(ht:jl n (G0 S' σ') (t'=0))(v1:0<=t'/\t'<=n)(vN:∀x:Int,1<=x->x<=n->N' x=N x\/(0<=N' x/\N' x<=n))(vL:∀x:Int,1<=x->x<=n->L' x=L x\/(1<=L' x/\L' x<=n))(vS:∀x:Int,1<=x->x<=n->S' x=S x\/(-1<=S' x/\S' x<=n/\(0<S' x->1<=L (S' x))))(hw:WkB n w')(Ki:(0<=p.pc/\p.pc<=6)\/(10<=p.pc/\p.pc<=30))(hp:(-1<=p.a/\p.a<=n)/\(-1<=p.b/\p.b<=n))(ha:p.pc=4\/(17<=p.pc/\p.pc≠28)->1<=p.a)(hb:(14<=p.pc/\p.pc<=15)\/(20<=p.pc/\p.pc<=22)\/(25<=p.pc/\p.pc<=28)->1<=p.b)(hc:p.pc=15\/p.pc=21\/p.pc=26->1<=p.c/\p.c<=n)(hg:12<=p.pc/\p.pc≠22->0<p.b->1<=L' p.b)(MQ:18<=p.pc/\p.pc<=22->1<=w'.last)(Mb:p.pc=18->w'.way=true)(Ni:19<=p.pc/\p.pc<=22->1<=w'.found)(ab:w'=w\/10<=(σ i).pc):CtI n t' N' S' L' w' σ':=by
  have V:σ' i=p:=by rw[hs,if_pos rfl]
  have O:∀j,j≠i->σ' j=σ j:=λj e=>by rw[hs,if_neg e]
  refine⟨ht,v1,λx h1 I=>?_,λx h1 I=>?_,λx h1 I=>?_,hw,?_,?_,?_,?_,?_,?_,?_,?_,?_⟩;. grind [h.vN x h1 I]
  . grind [h.vL x h1 I]
  . have Y:=h.vS x h1 I;have h4:=vL (S' x);have h5:=vS x h1 I;grind
  all_goals
    intro j H;have h1:=h.sp j H;have I:=h.pcs j H;have Y:=h.a1 j H;have h4:=h.b1 j H;have h5:=h.c1 j H;have h6:=h.gd j H;have h7:=h.w1 j H;have h8:=h.w2 j H;have Ns:=h.w3 j H;have h9:=vL (σ j).b;have h10:=h.tk.one i j hi H;by_cases e:j=i;. subst e;rw[V];grind
    . rw[O j e];grind [jg]
def oS{m:Nat}(wl:W.length=m)(a v b:Int):ldW (stW W a v) b=if b=a/\1<=a/\a<=m then v else ldW W b:=by exact abl
theorem xr(wl:W.length=2+3*n)(x v:Int)(h1:1<=x)(H:x<=n):ldW (stW W (cN x) v) 1=ldW W 1/\aN (stW W (cN x) v)=updF (aN W) x v/\aS (stW W (cN x) v)=aS W/\aL (stW W (cN x) v)=aL W:=by simp only[funext_iff,updF,aN,aS,aL,oS wl,cN,cS,cL];refine⟨?_,λy=>?_,λy=>?_,λy=>?_⟩<;>grind
theorem xt(wl:W.length=2+3*n)(x v:Int)(h1:1<=x)(H:x<=n):ldW (stW W (cS x) v) 1=ldW W 1/\aN (stW W (cS x) v)=aN W/\aS (stW W (cS x) v)=updF (aS W) x v/\aL (stW W (cS x) v)=aL W:=by simp only[funext_iff,updF,aN,aS,aL,oS wl,cN,cS,cL];refine⟨?_,λy=>?_,λy=>?_,λy=>?_⟩<;>grind
theorem xq(wl:W.length=2+3*n)(x v:Int)(h1:1<=x)(H:x<=n):ldW (stW W (cL x) v) 1=ldW W 1/\aN (stW W (cL x) v)=aN W/\aS (stW W (cL x) v)=aS W/\aL (stW W (cL x) v)=updF (aL W) x v:=by simp only[funext_iff,updF,aN,aS,aL,oS wl,cN,cS,cL];refine⟨?_,λy=>?_,λy=>?_,λy=>?_⟩<;>grind
theorem xo(wl:W.length=2+3*n)(v:Int):ldW (stW W 1 v) 1=v/\aN (stW W 1 v)=aN W/\aS (stW W 1 v)=aS W/\aL (stW W 1 v)=aL W:=by simp only[funext_iff,aN,aS,aL,oS wl,cN,cS,cL];refine⟨?_,λy=>?_,λy=>?_,λy=>?_⟩<;>grind
theorem xp(wl:W.length=2+3*n)(v:Int):ldW (stW W 2 v) 1=ldW W 1/\aN (stW W 2 v)=aN W/\aS (stW W 2 v)=aS W/\aL (stW W 2 v)=aL W:=by simp only[funext_iff,aN,aS,aL,oS wl,cN,cS,cL];refine⟨?_,λy=>?_,λy=>?_,λy=>?_⟩<;>grind
theorem CtS.go(k:CtS n h)(node:Nat->Int)(bud:Int){i:Nat}(hi:i<n){p:Sp}(V:p=sv h.S i)(h0:¬(p.pc=0\/p.pc=10)){r:Ar×Wk×Sp}(I:r=ah n node bud h i p):CtS n ⟨r.1,r.2.1,h.S.set i r.2.2⟩:=by
 have H:=k.i;have hs:∀q,sv (h.S.set i q)=λj=>if j=i then q else sv h.S j:=λq=>by funext j;rw[be];grind [k.len]
 have lN:∀x,1<=x->ldW h.ar.W (cN x)=aN h.ar.W x:=λx hx=>by unfold aN;rw[if_pos hx]
 have lS:∀x,1<=x->ldW h.ar.W (cS x)=aS h.ar.W x:=λx hx=>by unfold aS;rw[if_pos hx]
 have lL:∀x,1<=x->ldW h.ar.W (cL x)=aL h.ar.W x:=λx hx=>by unfold aL;rw[if_pos hx]
 have h1:=H.sp i hi;have h2:=H.pcs i hi;have h3:=H.a1 i hi;have h4:=H.b1 i hi;have h5:=H.c1 i hi;have h6:=H.gd i hi;have h7:=H.w1 i hi;have h8:=H.w2 i hi;have h9:=H.w3 i hi;have v1:=H.v1;have wb:=H.wb;have ab:=wb.1;have ad:=wb.2.1;have tk:=uJ (node:=node) wb;have bk:∀x v,WkB n (gV n node h.wk x v)/\((gV n node h.wk x v).way=true->1<=(gV n node h.wk x v).last):=λx v=>by have:=uJ (n:=n) (node:=node) (w:={h.wk with node:=v,passed:=0,last:=0,found:=0}) (by unfold WkB;simp) x;unfold gV;exact⟨this.1,this.2.1⟩
 have MI:∀y,cJ h.ar 1 y=decide (ldW h.ar.W 1=y):=λy=>by unfold cJ;rw[aT.2 (by rw[k.wln];omega)];rfl
 obtain⟨x,hx⟩:=LE (numT i);have Y:(i:Int)+1=x:=hx.symm;have O:1<=x/\x<=n:=by unfold numT at hx;omega
 have fN:=H.vN x O.1 O.2;have fS:=H.vS x O.1 O.2;have fL:=H.vL p.b;rw[<-V]at h1 h2 h3 h4 h5 h6 h7 h8 h9;have hq:(sv h.S i).pc=p.pc:=by rw[V]
 obtain⟨pc,a,b,z⟩:=p;simp only at h1 h2 h3 h4 h5 h6 h7 h8 h9 h0 fL hq;have hc:pc=1\/pc=2\/pc=3\/pc=4\/pc=5\/pc=6\/pc=11\/pc=12\/pc=13\/pc=14\/pc=15\/pc=16\/pc=17\/pc=18\/pc=19\/pc=20\/pc=21\/pc=22\/pc=23\/pc=24\/pc=25\/pc=26\/pc=27\/pc=28\/pc=29\/pc=30:=by omega
 rcases hc with rfl|rfl|rfl|rfl|rfl|rfl|rfl|rfl|rfl|rfl|rfl|rfl|rfl|rfl|rfl|rfl|rfl|rfl|rfl|rfl|rfl|rfl|rfl|rfl|rfl|rfl
 all_goals simp[ah,inC,jM,mD,eb,eI,Y,MI,lN x O.1,lS x O.1]at I;repeat' split at I
 all_goals subst I;refine⟨?_,by simp[k.len],?_⟩
 all_goals try simp only[ay,aQ,dP,d9,gW]
 all_goals try first|(simp only[bM,k.wln];done)|(split<;>simp only[bM,k.wln];done)
 all_goals clear V
 all_goals try simp only[MI,decide_eq_true_eq]
 all_goals try first|rw[if_pos ahU]|rw[if_neg ahU]
 all_goals try first
  |rw[(xr k.wln _ _ ahB ahB).1,(xr k.wln _ _ ahB ahB).2.1,(xr k.wln _ _ ahB ahB).2.2.1,(xr k.wln _ _ ahB ahB).2.2.2]
  |rw[(xt k.wln _ _ ahB ahB).1,(xt k.wln _ _ ahB ahB).2.1,(xt k.wln _ _ ahB ahB).2.2.1,(xt k.wln _ _ ahB ahB).2.2.2]
  |rw[(xq k.wln _ _ ahB ahB).1,(xq k.wln _ _ ahB ahB).2.1,(xq k.wln _ _ ahB ahB).2.2.1,(xq k.wln _ _ ahB ahB).2.2.2]
  |rw[(xo k.wln _).1,(xo k.wln _).2.1,(xo k.wln _).2.2.1,(xo k.wln _).2.2.2]
  |rw[(xp k.wln _).1,(xp k.wln _).2.1,(xp k.wln _).2.2.1,(xp k.wln _).2.2.2]
 all_goals try rw[lL b ahB]
 all_goals refine H.upd hi (λj=>congrFun (hs _) j) ?_ ?_ ?_ ?_ ?_ ?_ ?_ ?_ ?_ ?_ ?_ ?_ ?_ ?_ ?_ ?_
 all_goals try dsimp only
 all_goals try omega
 all_goals try exact λ_ _ _=> .inl rfl
 all_goals try (intro y _ _;simp only[updF];split;(right;omega);exact .inl rfl)
 all_goals try first|exact .inl rfl|(right;omega)
 all_goals try first
  |exact H.tk.own hi (λj=>congrFun (hs _) j) ahB aiP ait
  |exact H.tk.o hi (λj=>congrFun (hs _) j) ahB ahD ahP aiu
  |exact H.tk.low hi (λj=>congrFun (hs _) j) (by first|exact .inl ahP|exact .inr (.inl ⟨by dsimp only;omega,by rw[<-hx,gS];simp⟩)|exact .inr (.inr ⟨by omega,by dsimp only;omega,rfl⟩)) ahD aiP
  |exact H.tk.door hi (λj=>congrFun (hs _) j) ahB ahP ahB
  |exact H.tk.ent hi (λj=>congrFun (hs _) j) ahB (by rw[<-hx];assumption)
 all_goals grind [dR,gV,updF]
def gO{S:List Sp}{i:Nat}(h:i<S.length):getS S (i:Int)=sv S i:=by unfold getS sv;rw[if_pos ⟨by omega,by omega⟩,Int.toNat_natCast]
def CtS.step(k:CtS n h)(node:Nat->Int)(bud:Int){i:Nat}(hi:i<n):CtS n (fK n node bud h i).1:=by
 unfold fK;split;.rename_i hc;rw[gO (by rw[k.len];exact hi),Int.toNat_natCast]at *;exact k.go node bud hi rfl ahB rfl
 .exact k
theorem CtS.beg(k:CtS n h){i:Nat}(hi:i<n){u v:Int}(H:(u=0/\v=1)\/(u=10/\v=11)):CtS n (bS h i u v).1:=by
 unfold bS;split
 .rename_i hc;rw[gO (by rw[k.len];exact hi),Int.toNat_natCast]at *;have hs:∀j,sv (h.S.set i {sv h.S i with pc:=v}) j=if j=i then {sv h.S i with pc:=v} else sv h.S j:=λj=>by rw[be];grind [k.len]
  refine⟨?_,by simp[k.len],k.wln⟩;refine k.i.upd hi hs ?_ k.i.v1 (λ_ _ _=> .inl rfl) (λ_ _ _=> .inl rfl) (λ_ _ _=> .inl rfl) k.i.wb ahP (k.i.sp i hi) ?_ ?_ ?_ ?_ ?_ ?_ ?_ (.inl rfl)
  .rcases H with⟨rfl,rfl⟩|⟨rfl,rfl⟩
   .exact k.i.tk.low hi hs (.inl ahP) ahD (λ_ _=>rfl)
   .exact k.i.tk.own hi hs ahB (λ_ _=>rfl) (.inl rfl)
  all_goals (dsimp only;intros;omega)
 .exact k
def CtS.one(k:CtS n h){i j:Nat}(hi:i<n)(H:j<n)(h1:(sv h.S i).pc=10)(I:(sv h.S j).pc=10):i=j:=k.i.tk.one i j hi H (.inl ahB) (.inl ahB)
end
end
end Go.Proofs.YtglokdbiggbkjaaGreat
