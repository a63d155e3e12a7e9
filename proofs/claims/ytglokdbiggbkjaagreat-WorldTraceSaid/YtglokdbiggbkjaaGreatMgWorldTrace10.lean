/- Joined texts. -/
import Derived.Test.YtglokdbiggbkjaaGreatMgWorldTrace0
import Derived.Test.YtglokdbiggbkjaaGreatMgWorldTrace3
set_option linter.unusedVariables false
set_option linter.unusedSimpArgs false
set_option linter.defProp false
set_option maxRecDepth 100000
set_option maxHeartbeats 16000000
open Go.Proofs.Tryz
namespace Go.Proofs.YtglokdbiggbkjaaGreat
open Go.IntKind(i64)
open Go.Value(int bool slice agg tuple pointer)
open Go.Ending(returned)
open Go.Obj(cells)
variable{n j nd N h:Nat}{t v dl bud:Int}{G:Nat->List Nat}{W:List Int}{A R:List Nat}
section
open Go
def fC(t:Int)(n:Nat)(f:Int->Int)(x:Int):Int:=if 1<=x/\x<=(n:Int)+1 then f (t+x)else 0
structure ClA(n:Nat)(t:Int)(g:Int->Int)(σ:Nat->Sp)(e:Int):Prop where
 e0:1<=e/\e<=(n:Int)+1
 a0:∀i,i<n->1<=(σ i).a/\(σ i).a<=(n:Int)+1
 inj:∀i j,i<n->j<n->(σ i).a=(σ j).a->i=j
 ne:∀i,i<n->(σ i).a≠e
 f0:g e=0
 f1:∀i,i<n->2<=(σ i).pc->g (σ i).a=1
 bq:∀i,i<n->3<=(σ i).pc->(σ i).b=e\/∃j,j<n/\(σ i).b=(σ j).a/\3<=(σ j).pc
 bu:∀i j,i<n->j<n->3<=(σ i).pc->3<=(σ j).pc->(σ i).b=(σ j).b->i=j
 tl:t=e\/∃j,j<n/\t=(σ j).a/\3<=(σ j).pc
 tb:∀k,k<n->3<=(σ k).pc->(σ k).b≠t
 h10:∀i,i<n->10<=(σ i).pc->(σ i).b=e
section
variable{x e:Int}{f f' g g':Int->Int}{σ σ':Nat->Sp}{i:Nat}{p:Sp}
theorem Fa(H:∀y,f' y=if y=t+x then v else f y)(h:1<=x/\x<=(n:Int)+1):f' t=f t/\fC t n f'=updF (fC t n f) x v:=by simp only[funext_iff,updF,fC,H];refine⟨?_,λy=>?_⟩<;>grind
theorem F0(h:∀y,f' y=if y=t then v else f y):f' t=v/\fC t n f'=fC t n f:=by simp only[funext_iff,fC,h];refine⟨?_,λy=>?_⟩<;>grind
def Bl(h:∀y,t<=y->y<t+((n:Int)+2)->f' y=f y):fC t n f'=fC t n f:=by
 funext x;unfold fC;split;.exact h _ ahy ahy
 .rfl
def ClA.one(k:ClA n t g σ e){i:Nat}(hi:i<n)(h:j<n)(h1:(σ i).pc=10)(H:(σ j).pc=10):i=j:=
 k.bu i j hi h ahy ahy (by rw[k.h10 i hi ahy,k.h10 j h ahy])
theorem ClA.put(k:ClA n t g σ e)(hi:i<n)(hs:∀j,σ' j=if j=i then p else σ j)(ha:p.a=(σ i).a)(hg:∀y,y≠(σ i).a->g' y=g y)(h1:2<=p.pc->g' (σ i).a=1)(hq:((σ i).pc<3/\p.pc<3)\/(3<=(σ i).pc/\3<=p.pc/\p.b=(σ i).b/\(10<=p.pc->(σ i).b=e))):ClA n t g' σ' e:=by
 obtain⟨e0,a0,inj,ne,f0,f1,bq,bu,tl,tb,h10⟩:=k;have ei:=hs i;rw[if_pos rfl]at ei;have V:∀x,(∃j,j<n/\x=(σ j).a/\3<=(σ j).pc)->∃j,j<n/\x=(σ' j).a/\3<=(σ' j).pc:=λx ⟨j,h1,O,h3⟩=>⟨j,h1,by rw[hs];split<;>simp_all,by rw[hs];split<;>(try subst j)<;>omega⟩;refine⟨e0,λj H=>?_,λj l H I=>?_,λj H=>?_,?_,λj H=>?_,λj H h=>?_,λj l H I=>?_,tl.imp id (V t),λj H=>?_,λj H=>?_⟩;.have:=a0 j H;have:=hs j;grind
 .have:=inj j l H I;have:=hs j;have:=hs l;grind
 .have:=ne j H;have:=hs j;grind
 .rw[hg _ (λh=>ne i hi h.symm)];exact f0
 .have:=f1 j H;have:=hs j;have:=inj j i H hi;grind
 .have O:=bq j H;have h3:=hs j;have Y:3<=(σ j).pc/\(σ' j).b=(σ j).b:=by grind
  rw[Y.2];exact(O Y.1).imp id (V _)
 .have:=bu j l H I;have:=hs j;have:=hs l;grind
 .have:=tb j H;have:=hs j;grind
 .have:=h10 j H;have:=hs j;grind
theorem ClA.swap(k:ClA n t g σ e)(hi:i<n)(hs:∀j,σ' j=if j=i then p else σ j)(h2:(σ i).pc=2)(hp:p.pc=3)(ha:p.a=(σ i).a)(I:p.b=t):ClA n (σ i).a g σ' e:=by
 obtain⟨e0,a0,inj,ne,f0,f1,bq,bu,tl,tb,h10⟩:=k
 have V:∀x,(∃j,j<n/\x=(σ j).a/\3<=(σ j).pc)->(∃j,j<n/\x=(σ' j).a/\3<=(σ' j).pc)/\x≠(σ i).a:=λx ⟨j,h1,h3,h4⟩=>by
  have:j≠i:=λe=>by subst e;omega
  exact⟨⟨j,h1,by rw[hs,if_neg this];exact h3,by rw[hs,if_neg this];exact h4⟩,λe=>this (inj j i h1 hi (h3.symm.trans e))⟩
 have O:=hs i;rw[if_pos rfl]at O;refine⟨e0,λj H=>?_,λj l H Y=>?_,λj H=>?_,f0,λj H=>?_,λj H h=>?_,λj l H Y=>?_,.inr ⟨i,hi,by rw[O,ha],by rw[O];omega⟩,λj H h=>?_,λj H=>?_⟩;.have:=a0 j H;have:=hs j;grind
 .have:=inj j l H Y;have:=hs j;have:=hs l;grind
 .have:=ne j H;have:=hs j;grind
 .have:=f1 j H;have:=hs j;grind
 .by_cases c:j=i;.rw[c,O,I];exact tl.imp id λh=>(V _ h).1
  .rw[hs,if_neg c]at h ⊢;exact(bq j H h).imp id λh=>(V _ h).1
 .have:=bu j l H Y;have:=hs j;have:=hs l;have:=tb j H;have:=tb l Y;grind
 .have hn:=ne i hi;by_cases c:j=i;.rw[c,O,I];exact tl.elim (λh=>by rw[h];exact λh=>hn h.symm) λh=>(V _ h).2
  .rw[hs,if_neg c]at h ⊢;exact(bq j H h).elim (λh=>by rw[h];exact λh=>hn h.symm) λh=>(V _ h).2
 .have:=h10 j H;have:=hs j;grind
theorem ClA.o(k:ClA n t g σ e)(hi:i<n)(hs:∀j,σ' j=if j=i then p else σ j)(OG:10<=(σ i).pc)(hp:p.pc=0)(ha:p.a=(σ i).b)(hg:g'=updF g (σ i).a 0):ClA n t g' σ' (σ i).a:=by
 obtain⟨e0,a0,inj,ne,f0,f1,bq,bu,tl,tb,h10⟩:=k;have I:=h10 i hi OG;have WW:∀j,j<n->3<=(σ j).pc->j≠i->(σ j).b≠e:=λj H Y MV h=>MV (bu j i H hi Y ahy (by rw[h,I]))
 have V:∀x,(∃j,j<n/\x=(σ j).a/\3<=(σ j).pc)->x=(σ i).a\/∃j,j<n/\x=(σ' j).a/\3<=(σ' j).pc:=λx ⟨j,h1,Y,h4⟩=>by
  by_cases c:j=i;.exact .inl (by rw[Y,c])
  .exact .inr ⟨j,h1,by rw[hs,if_neg c];exact Y,by rw[hs,if_neg c];exact h4⟩
 have O:=hs i;rw[if_pos rfl]at O;refine⟨a0 i hi,λj H=>?_,λj l H hl=>?_,λj H=>?_,by rw[hg,gR],λj H=>?_,λj H h=>?_,λj l H hl=>?_,tl.elim (λh=>absurd (by rw[I,h]) (tb i hi ahy)) (V t),λj H=>?_,λj H h=>?_⟩;.have:=a0 j H;have:=hs j;grind
 .have:=inj j l H hl;have:=hs j;have:=hs l;have:=ne j H;have:=ne l hl;grind
 .have:=ne i hi;have:=inj j i H hi;have:=hs j;grind
 .by_cases c:j=i;.rw[c,O];intro h;omega
  .rw[hs,if_neg c,hg,eF _ (λh=>c (inj j i H hi h))];exact f1 j H
 .have c:j≠i:=λc=>by rw[c,O]at h;omega
  rw[hs,if_neg c]at h ⊢;exact(bq j H h).elim (λh2=>absurd h2 (WW j H h c)) (V _)
 .have:=bu j l H hl;have:=hs j;have:=hs l;grind
 .have:=tb j H;have:=hs j;grind
 .have c:j≠i:=λc=>by rw[c,O]at h;omega
  rw[hs,if_neg c]at h ⊢;exact absurd (h10 j H h) (WW j H ahy c)
end
end
section
open Go
structure StA(n:Nat)(node:Nat->Nat)(p p':Sp)(i:Nat)(Q Q':List Nat):Prop where
 row:p.pc=1->p'.pc=5->∃(t:Nat) (d:Int),t<n/\node t=node i/\0<=d/\p'.a=tokH t d
 stay:p.pc≠4->p.pc≠11->Q'=Q
 splice:p.pc=4->(∃r,Q'=Q++i :: r)/\(p'.pc=10->Q=[])
 gone:p.pc=11->Q.head? =some i/\Q'=Q.tail
 enter:p'.pc=10->p.pc≠10->p.pc=4\/(p.pc=5/\Q.head? =some i)
 next:p'.pc=p.pc\/(p.pc=1/\(p'.pc=2\/p'.pc=3\/p'.pc=5))\/(p.pc=2/\p'.pc=3)\/(p.pc=3/\p'.pc=4)\/(p.pc=4/\(p'.pc=5\/p'.pc=10))\/(p.pc=5/\p'.pc=10)\/(p.pc=11/\p'.pc=0)\/(p.pc=0/\p'.pc=1)\/(p.pc=10/\p'.pc=11)
def G0(n:Nat)(node:Nat->Nat)(S S':List Sp)(ho:Int)(Q Q':List Nat):Prop:=
 (S'=S/\Q'=Q)\/∃(j:Nat) (p':Sp),j<n/\ho=j/\S'=S.set j p'/\StA n node (sv S j) p' j Q Q'
def Aj(nd n:Nat)(dl:Int)(node:Nat->Nat)(h:Hc)(k i:Int):Hc×Bool:=
 if k=0 then fb nd n dl node h i else if k=1 then bv h i 0 1 else if k=2 then bv h i 10 11 else(h,false)
section
variable{i:Nat}{node:Nat->Nat}{h:Hc}
def gn{S:List Sp}(h:j<S.length):getS S (j:Int)=sv S j:=by unfold getS;rw[if_pos ahy];rfl
def HOk.le(k:HOk nd n dl node h N G){M:Nat}(H:N<=M):HOk nd n dl node h M G:=⟨k.iv,by have:=k.ops;omega,λt=>by have:=k.dn t;omega,k.bb⟩
def HOk.stepI(k:HOk nd n dl node h N G)(hN:N<1000000)(H:Int):∃I,HOk nd n dl node (fb nd n dl node h H).1 (N+1) I/\(((fb nd n dl node h H).1=h/\I=G/\¬(okI h.S H/\iu (getS h.S H)=true))\/∃(j:Nat) (p':Sp),j<n/\H=j/\(fb nd n dl node h H).1.S=h.S.set j p'/\StH n node (sv h.S j) p' j (G 0) (I 0))/\(fb nd n dl node h H).1.ar.ops<=h.ar.ops+1:=by
 unfold fb;by_cases c:okI h.S H/\iu (getS h.S H)=true
 .rw[if_pos c];obtain⟨⟨Y,h1⟩,hg⟩:=c;obtain⟨j,rfl⟩:=Int.eq_ofNat_of_zero_le Y;have V:j<h.S.length:=by omega
  have O:j<n:=by rw[<-k.iv.sl];exact V
  rw[gn V]at hg ⊢;simp only[Int.toNat_natCast];obtain⟨I,k',s'⟩:=k.step hN O hg _ rfl;refine⟨I,k',.inr ⟨j,_,O,rfl,rfl,s'⟩,?_⟩;unfold bz;repeat' split
  all_goals first
   |exact fd _ _ _
   |exact rq _ _ _ _
   |exact jI _ _ _
   |exact Nat.le_succ _
 .rw[if_neg c];exact⟨G,k.le ahy,.inl ⟨rfl,rfl,c⟩,Nat.le_succ _⟩
def HOk.beginI(k:HOk nd n dl node h N G)(H f u:Int)(V:(f=0/\u=1)\/(f=10/\u=11)):HOk nd n dl node (bv h H f u).1 N G/\(((bv h H f u).1=h/\¬(okI h.S H/\(getS h.S H).pc=f))\/∃(j:Nat),j<n/\H=j/\(sv h.S j).pc=f/\(bv h H f u).1.S=h.S.set j {sv h.S j with pc:=u})/\(bv h H f u).1.ar=h.ar:=by
 unfold bv;by_cases c:okI h.S H/\(getS h.S H).pc=f
 .rw[if_pos c];obtain⟨⟨Y,h1⟩,hg⟩:=c;obtain⟨j,rfl⟩:=Int.eq_ofNat_of_zero_le Y;have O:j<h.S.length:=by omega
  have I:j<n:=by rw[<-k.iv.sl];exact O
  rw[gn O]at hg ⊢;simp only[Int.toNat_natCast];refine⟨⟨?_,k.ops,k.dn,k.bset I (by show u=2->_;omega)⟩,.inr ⟨j,I,rfl,hg,rfl⟩,by trivial⟩;rcases V with⟨rfl,rfl⟩|⟨rfl,rfl⟩
  .exact k.iv.ask I hg rfl
  .exact k.iv.atFrontP I (k.iv.atFront I (.inl hg)) (.inr rfl)
 .rw[if_neg c];exact⟨k,.inl ⟨rfl,c⟩,rfl⟩
def HOk.act(k:HOk nd n dl node h N G)(hN:N<1000000)(K H:Int):∃I,HOk nd n dl node (Aj nd n dl node h K H).1 (N+1) I/\G0 n node h.S (Aj nd n dl node h K H).1.S H (G 0) (I 0)/\(Aj nd n dl node h K H).1.ar.ops<=h.ar.ops+1/\(K≠0->(Aj nd n dl node h K H).1.ar.ops=h.ar.ops):=by
 unfold Aj;by_cases c0:K=0
 .rw[if_pos c0];obtain⟨I,k',hs,Y⟩:=k.stepI hN H;refine⟨I,k',?_,Y,λh=>absurd c0 h⟩;rcases hs with⟨h1,O,_⟩|⟨j,p',h1,O,V,s⟩
  .exact .inl ⟨by rw[h1],by rw[O]⟩
  .refine .inr ⟨j,p',h1,O,V,s.row,s.stay,s.splice,s.gone,s.enter,?_⟩;rcases s.next with h|h|h|h|h|h|h
   .exact .inl h
   .exact .inr (.inl h)
   .exact .inr (.inr (.inl h))
   .exact .inr (.inr (.inr (.inl h)))
   .exact .inr (.inr (.inr (.inr (.inl h))))
   .exact .inr (.inr (.inr (.inr (.inr (.inl h)))))
   .exact .inr (.inr (.inr (.inr (.inr (.inr (.inl h))))))
 .rw[if_neg c0]
  have OF:∀f u:Int,(f=0/\u=1)\/(f=10/\u=11)->∃I,HOk nd n dl node (bv h H f u).1 (N+1) I/\G0 n node h.S (bv h H f u).1.S H (G 0) (I 0)/\(bv h H f u).1.ar.ops<=h.ar.ops+1/\(K≠0->(bv h H f u).1.ar.ops=h.ar.ops):=λf u SD=>by
   obtain⟨k',hs,ha⟩:=k.beginI H f u SD;refine⟨G,k'.le ahy,?_,by rw[ha];exact Nat.le_succ _,λ_=>by rw[ha]⟩;rcases hs with⟨h1,_⟩|⟨j,h1,O,V,h4⟩
   .exact .inl ⟨by rw[h1],rfl⟩
   .refine .inr ⟨j,_,h1,O,h4,⟨λh=>?_,λ_ _=>rfl,λh=>?_,λh=>?_,λh=>?_,?_⟩⟩;.omega
    .omega
    .omega
    .intro _;exfalso;have:u=10:=h;omega
    .rcases SD with⟨rfl,rfl⟩|⟨rfl,rfl⟩
     .exact .inr (.inr (.inr (.inr (.inr (.inr (.inr (.inl ⟨V,rfl⟩)))))))
     .exact .inr (.inr (.inr (.inr (.inr (.inr (.inr (.inr ⟨V,rfl⟩)))))))
  by_cases c1:K=1;.rw[if_pos c1];exact OF 0 1 (.inl ⟨rfl,rfl⟩)
  .rw[if_neg c1];by_cases c2:K=2;.rw[if_pos c2];exact OF 10 11 (.inr ⟨rfl,rfl⟩)
   .rw[if_neg c2];exact⟨G,k.le ahy,.inl ⟨rfl,rfl⟩,Nat.le_succ _,λ_=>rfl⟩
def HOk.hold1(k:HOk nd n dl node h N G){a b:Nat}(Y:a<n)(I:b<n)(h1:(sv h.S a).pc=10)(V:(sv h.S b).pc=10):a=b:=by have O:=k.iv.atFront Y (.inl h1);have H:=k.iv.atFront I (.inl V);rw[O]at H;injection H
end
section
variable{Q r:List Nat}{k u x:Nat}
end
section
variable{node:Nat->Nat}{h h':Hc}{G':Nat->List Nat}{P:Nat->Nat->Int}
end
end
section
open Go
def iT{α:Type}(a:α)(n i:Nat):(List.replicate n a).getD i a=a:=by exact aa8
def r7(n i:Nat):sv (List.replicate n Sp.zero) i=Sp.zero:=iT _ _ _
section
variable{node:Nat->Nat}{h:Hc}
def HOk.start(s:Ar)(I:n<=32)(O:∀t,t<n->node t<nd)(hs:s.ops=0)(H:s.W=List.replicate (1+nd+n) 0):HOk nd n dl node ⟨s,List.replicate 32 0,List.replicate n Sp.zero⟩ 0 λ_=>[]:=by
  have z:∀t,(sv (List.replicate n Sp.zero) t).pc=0:=λt=>by rw[r7];rfl
  have d:∀t,dv (List.replicate 32 0) t=0:=λt=>iT _ _ _;refine⟨⟨?_,?_,?_,I,O,?_,?_,?_,?_,?_,?_,?_,?_,?_,?_,?_,?_,?_,?_⟩,by show s.ops<=0;omega,λt=>by rw[d];exact Int.le_refl _,λt _ V=>?_⟩;. rw[H];simp
  . simp
  . simpa using I
  . intro t _;show tnw nd s.W t=_;rw[H,d];exact iT _ _ _
  . intro t;show 0<=dv (List.replicate 32 0) t;rw[d];exact Int.le_refl _
  . intro _;exact List.nodup_nil
  . intro _ _ t h1;cases h1
  . intro _ t h1;cases h1
  . intro _;trivial
  . intro t _ _;exact .inl (z t)
  . intro m hm;exact absurd rfl hm
  . intro _ t h1;cases h1
  . intro m hm;exact absurd rfl hm
  . intro m _ hm;exact absurd rfl hm
  . intro v _;refine .inl ?_;rw[H];exact iT _ _ _
  . intro t h1;cases h1
  . refine .inr ⟨rfl,.inl ?_⟩;rw[H];exact iT _ _ _
  . have:=z t;have Y:(sv (List.replicate n Sp.zero) t).pc=2:=V;omega
end
end
section
open Go
structure Wk where
 node:Int
 way:Bool
 passed:Int
 last:Int
 found:Int
structure Cn where
 ar:Ar
 wk:Wk
 S:List Sp
def dS(n:Nat)(node:Nat->Int)(w:Wk)(x:Int):Wk:=
 if ¬(1<=x/\x<=n)\/w.passed=n then {w with way:=false}
 else if node (x-1).toNat=w.node then {w with way:=false,found:=x}
 else {w with way:=true,last:=x,passed:=w.passed+1}
def gW(n:Nat)(node:Nat->Int)(w:Wk)(x v:Int):Wk:=dS n node {w with node:=v,passed:=0,last:=0,found:=0} x
def cN(x:Int):Int:=3*x
def cS(x:Int):Int:=3*x+1
def cL(x:Int):Int:=3*x+2
def inC(s:Ar)(x:Int)(p:Sp):Ar×Sp:=
 if p.pc=1 then(ae s (cN x) 0,{p with pc:=2})
 else if p.pc=2 then(ae s (cS x) 0,{p with pc:=3})
 else if p.pc=3 then(cz s 1 x,{p with a:=ldW s.W 1,pc:=if ldW s.W 1=0 then 6 else 4})
 else if p.pc=4 then(ae s (cN p.a) x,{p with pc:=5})
 else if p.pc=5 then(af s (cS x),{p with a:=ldW s.W (cS x),pc:=if ldW s.W (cS x)≠0 then 10 else 5})
 else(ae s (cS x) (-1),{p with pc:=10})
def jQ(s:Ar)(x:Int)(p:Sp):Ar×Sp:=
 if p.pc=11 then(af s (cS x),{p with b:=ldW s.W (cS x),pc:=12})
 else if p.pc=12 then(af s (cN x),{p with a:=ldW s.W (cN x),pc:=if ldW s.W (cN x)≠0 then 17 else if 0<p.b then 14 else 13})
 else if p.pc=13 then(dY s 1 x 0,{p with pc:=if cK s 1 x then 0 else 16})
 else if p.pc=14 then(af s (cL p.b),{p with c:=ldW s.W (cL p.b),pc:=15})
 else if p.pc=15 then(dY s 1 x p.c,{p with pc:=if cK s 1 x then 28 else 16})
 else(af s (cN x),{p with a:=ldW s.W (cN x),pc:=if ldW s.W (cN x)≠0 then 17 else 16})
def eH(p:Sp):Sp:={p with pc:=if 0<p.b then 25 else 29}
def mI(n:Nat)(node:Nat->Int)(bud:Int)(s:Ar)(w:Wk)(i:Nat)(p:Sp):Ar×Wk×Sp:=
 if p.pc=18 then
  if w.way then
   (af s (cN w.last),dS n node w (ldW s.W (cN w.last)),
    if (dS n node w (ldW s.W (cN w.last))).way then {p with pc:=18} else if (dS n node w (ldW s.W (cN w.last))).found≠0 then {p with pc:=19} else eH p)
  else(s,w,{p with pc:=18})
 else if bud<=ldW s.W 2 then(af s 2,w,eH {p with c:=ldW s.W 2})
 else(af s 2,gW n node w p.a (node i),{p with c:=ldW s.W 2,pc:=if (gW n node w p.a (node i)).way then 18 else 23})
def d9(s:Ar)(w:Wk)(p:Sp):Ar×Sp:=
 if p.pc=19 then(ae s (cN w.last) 0,if 0<p.b then {p with pc:=20} else {p with b:=p.a,pc:=22})
 else if p.pc=20 then(af s (cL p.b),{p with c:=ldW s.W (cL p.b),pc:=21})
 else if p.pc=25 then(af s (cL p.b),{p with c:=ldW s.W (cL p.b),pc:=26})
 else if p.pc=21 then(ae s (cN p.c) p.a,{p with pc:=22})
 else if p.pc=26 then(ae s (cN p.c) p.a,{p with pc:=27})
 else if p.pc=22 then(ae s (cL p.b) w.last,{p with a:=w.found,pc:=23})
 else if p.pc=23 then(addA s 2 1,{p with pc:=24})
 else if p.pc=24 then(ae s (cS p.a) p.b,{p with pc:=0})
 else if p.pc=27 then(ae s 2 0,{p with pc:=28})
 else if p.pc=29 then(ae s 2 0,{p with pc:=30})
 else if p.pc=28 then(ae s (cS p.b) (-1),{p with pc:=0})
 else(ae s (cS p.a) (-1),{p with pc:=0})
def ah(n:Nat)(node:Nat->Int)(bud:Int)(h:Cn)(i:Nat)(p:Sp):Ar×Wk×Sp:=
 if p.pc<10 then((inC h.ar (i+1) p).1,h.wk,(inC h.ar (i+1) p).2)
 else if p.pc<=16 then((jQ h.ar (i+1) p).1,h.wk,(jQ h.ar (i+1) p).2)
 else if p.pc<=18 then mI n node bud h.ar h.wk i p
 else((d9 h.ar h.wk p).1,h.wk,(d9 h.ar h.wk p).2)
def fH(n:Nat)(node:Nat->Int)(bud:Int)(h:Cn)(i:Int):Cn×Bool:=
 if okI h.S i/\(getS h.S i).pc≠0/\(getS h.S i).pc≠10 then
  (⟨(ah n node bud h i.toNat (getS h.S i)).1,(ah n node bud h i.toNat (getS h.S i)).2.1,h.S.set i.toNat (ah n node bud h i.toNat (getS h.S i)).2.2⟩,
   decide ((ah n node bud h i.toNat (getS h.S i)).2.2.pc=0\/(ah n node bud h i.toNat (getS h.S i)).2.2.pc=10))
 else(h,false)
def bX(h:Cn)(i KN Kr:Int):Cn×Bool:=
 if okI h.S i/\(getS h.S i).pc=KN then(⟨h.ar,h.wk,h.S.set i.toNat {getS h.S i with pc:=Kr}⟩,true)else(h,false)
def num(t:Nat):Int:=(t:Int)+1
section
variable{t:Nat}
end
section
variable{P:Nat->Nat->Prop}{l m:List Nat}
end
end
section
open Go
section
variable{node:Nat->Int}{s:Cn}{i:Nat}{p:Sp}
def J8(e:p.pc=1):ah n node bud s i p=(ae s.ar (cN (num i)) 0,s.wk,{p with pc:=2}):=by simp[ah,inC,e,num]
def J9(e:p.pc=2):ah n node bud s i p=(ae s.ar (cS (num i)) 0,s.wk,{p with pc:=3}):=by simp[ah,inC,e,num]
def Kc(e:p.pc=3):ah n node bud s i p=(cz s.ar 1 (num i),s.wk,{p with a:=ldW s.ar.W 1,pc:=if ldW s.ar.W 1=0 then 6 else 4}):=by simp[ah,inC,e,num]
def Kd(e:p.pc=4):ah n node bud s i p=(ae s.ar (cN p.a) (num i),s.wk,{p with pc:=5}):=by simp[ah,inC,e,num]
def Ke(e:p.pc=5):ah n node bud s i p=(af s.ar (cS (num i)),s.wk,{p with a:=ldW s.ar.W (cS (num i)),pc:=if ldW s.ar.W (cS (num i))≠0 then 10 else 5}):=by simp[ah,inC,e,num];by_cases hc:ldW s.ar.W (cS ((i:Int)+1))=0<;>simp[hc]
def Kf(e:p.pc=6):ah n node bud s i p=(ae s.ar (cS (num i)) (-1),s.wk,{p with pc:=10}):=by simp[ah,inC,e,num]
end
end
section
open Go
section
variable{node:Nat->Int}{s:Cn}{i:Nat}{A' R':List Nat}{p:Sp}
def Ji(e:p.pc=11):ah n node bud s i p=(af s.ar (cS (num i)),s.wk,{p with b:=ldW s.ar.W (cS (num i)),pc:=12}):=by simp[ah,jQ,e,num]
def Jj(e:p.pc=12):ah n node bud s i p=(af s.ar (cN (num i)),s.wk,{p with a:=ldW s.ar.W (cN (num i)),pc:=if ldW s.ar.W (cN (num i))≠0 then 17 else if 0<p.b then 14 else 13}):=by by_cases hc:ldW s.ar.W (cN ((i:Int)+1))=0<;>simp[ah,jQ,e,num,hc]
def Jk(e:p.pc=13):ah n node bud s i p=(dY s.ar 1 (num i) 0,s.wk,{p with pc:=if cK s.ar 1 (num i)then 0 else 16}):=by cases hc:cK s.ar 1 ((i:Int)+1)<;>simp[ah,jQ,e,num,hc]
def Jl(e:p.pc=14):ah n node bud s i p=(af s.ar (cL p.b),s.wk,{p with c:=ldW s.ar.W (cL p.b),pc:=15}):=by simp[ah,jQ,e]
def Jm(e:p.pc=15):ah n node bud s i p=(dY s.ar 1 (num i) p.c,s.wk,{p with pc:=if cK s.ar 1 (num i)then 28 else 16}):=by cases hc:cK s.ar 1 ((i:Int)+1)<;>simp[ah,jQ,e,num,hc]
def Jn(e:p.pc=16):ah n node bud s i p=(af s.ar (cN (num i)),s.wk,{p with a:=ldW s.ar.W (cN (num i)),pc:=if ldW s.ar.W (cN (num i))≠0 then 17 else 16}):=by by_cases hc:ldW s.ar.W (cN ((i:Int)+1))=0<;>simp[ah,jQ,e,num,hc]
def Jo(e:p.pc=17):ah n node bud s i p=if bud<=ldW s.ar.W 2 then(af s.ar 2,s.wk,eH {p with c:=ldW s.ar.W 2})else(af s.ar 2,gW n node s.wk p.a (node i),{p with c:=ldW s.ar.W 2,pc:=if (gW n node s.wk p.a (node i)).way then 18 else 23}):=by simp[ah,mI,e]
def Jp(e:p.pc=18)(hw:s.wk.way=true):ah n node bud s i p=(af s.ar (cN s.wk.last),dS n node s.wk (ldW s.ar.W (cN s.wk.last)),
        if (dS n node s.wk (ldW s.ar.W (cN s.wk.last))).way then {p with pc:=18} else if (dS n node s.wk (ldW s.ar.W (cN s.wk.last))).found≠0 then {p with pc:=19} else eH p):=by simp[ah,mI,e,hw]
def Fk(e:p.pc=19):ah n node bud s i p=(ae s.ar (cN s.wk.last) 0,s.wk,if 0<p.b then {p with pc:=20} else {p with b:=p.a,pc:=22}):=by simp[ah,d9,e]
def Jq(e:p.pc=20):ah n node bud s i p=(af s.ar (cL p.b),s.wk,{p with c:=ldW s.ar.W (cL p.b),pc:=21}):=by simp[ah,d9,e]
def Jr(e:p.pc=21):ah n node bud s i p=(ae s.ar (cN p.c) p.a,s.wk,{p with pc:=22}):=by simp[ah,d9,e]
def Js(e:p.pc=22):ah n node bud s i p=(ae s.ar (cL p.b) s.wk.last,s.wk,{p with a:=s.wk.found,pc:=23}):=by simp[ah,d9,e]
def Jt(e:p.pc=23):ah n node bud s i p=(addA s.ar 2 1,s.wk,{p with pc:=24}):=by simp[ah,d9,e]
def Ju(e:p.pc=24):ah n node bud s i p=(ae s.ar (cS p.a) p.b,s.wk,{p with pc:=0}):=by simp[ah,d9,e]
def Jv(e:p.pc=25):ah n node bud s i p=(af s.ar (cL p.b),s.wk,{p with c:=ldW s.ar.W (cL p.b),pc:=26}):=by simp[ah,d9,e]
def Jw(e:p.pc=26):ah n node bud s i p=(ae s.ar (cN p.c) p.a,s.wk,{p with pc:=27}):=by simp[ah,d9,e]
def Jx(e:p.pc=27):ah n node bud s i p=(ae s.ar 2 0,s.wk,{p with pc:=28}):=by simp[ah,d9,e]
def Jy(e:p.pc=28):ah n node bud s i p=(ae s.ar (cS p.b) (-1),s.wk,{p with pc:=0}):=by simp[ah,d9,e]
def Jz(e:p.pc=29):ah n node bud s i p=(ae s.ar 2 0,s.wk,{p with pc:=30}):=by simp[ah,d9,e]
def JA(e:p.pc=30):ah n node bud s i p=(ae s.ar (cS p.a) (-1),s.wk,{p with pc:=0}):=by simp[ah,d9,e]
end
end
section
open Go
variable{h:Cn}
def aN(W:List Int)(x:Int):Int:=if 1<=x then ldW W (cN x)else 0
def aS(W:List Int)(x:Int):Int:=if 1<=x then ldW W (cS x)else 0
def aL(W:List Int)(x:Int):Int:=if 1<=x then ldW W (cL x)else 0
def WkB(n:Nat)(w:Wk):Prop:=(0<=w.last/\w.last<=n)/\(0<=w.found/\w.found<=n)/\0<=w.passed/\w.passed<=n
theorem uC{node:Nat->Int}{w:Wk}(hw:WkB n w)(x:Int):WkB n (dS n node w x)/\((dS n node w x).way=true->1<=(dS n node w x).last)/\(1<=w.last->1<=(dS n node w x).last):=by
 unfold dS;repeat' split
 all_goals grind [WkB]
abbrev GU(S:Int->Int)(σ:Nat->Sp):Nat->Prop:=jh 6 (λv=>v≠0) S σ
structure CtI(n:Nat)(t:Int)(N S L:Int->Int)(w:Wk)(σ:Nat->Sp):Prop where
 tk:jm n (GU S σ) (t=0)
 v1:0<=t/\t<=n
 vN:∀x:Int,1<=x->x<=n->0<=N x/\N x<=n
 vL:∀x:Int,1<=x->x<=n->0<=L x/\L x<=n
 vS:∀x:Int,1<=x->x<=n->-1<=S x/\S x<=n/\(0<S x->1<=L (S x))
 wb:WkB n w
 pcs:∀i,i<n->(0<=(σ i).pc/\(σ i).pc<=6)\/(10<=(σ i).pc/\(σ i).pc<=30)
 sp:∀i,i<n->(-1<=(σ i).a/\(σ i).a<=n)/\(-1<=(σ i).b/\(σ i).b<=n)
 a1:∀i,i<n->(σ i).pc=4\/(17<=(σ i).pc/\(σ i).pc≠28)->1<=(σ i).a
 b1:∀i,i<n->(14<=(σ i).pc/\(σ i).pc<=15)\/(20<=(σ i).pc/\(σ i).pc<=22)\/(25<=(σ i).pc/\(σ i).pc<=28)->1<=(σ i).b
 c1:∀i,i<n->(σ i).pc=15\/(σ i).pc=21\/(σ i).pc=26->1<=(σ i).c/\(σ i).c<=n
 gd:∀i,i<n->12<=(σ i).pc/\(σ i).pc≠22->0<(σ i).b->1<=L (σ i).b
 w1:∀i,i<n->18<=(σ i).pc/\(σ i).pc<=22->1<=w.last
 w3:∀i,i<n->(σ i).pc=18->w.way=true
 w2:∀i,i<n->19<=(σ i).pc/\(σ i).pc<=22->1<=w.found
structure CtS(n:Nat)(h:Cn):Prop where
 i:CtI n (ldW h.ar.W 1) (aN h.ar.W) (aS h.ar.W) (aL h.ar.W) h.wk (sv h.S)
 len:h.S.length=n
 wln:h.ar.W.length=2+3*n
section
variable{t':Int}{N N' S S' L L':Int->Int}{w w':Wk}{σ σ':Nat->Sp}
theorem CtI.upd(h:CtI n t N S L w σ){i:Nat}{p:Sp}(hi:i<n)(hs:∀j,σ' j=if j=i then p else σ j)(ht:jm n (GU S' σ') (t'=0))(v1:0<=t'/\t'<=n)(vN:∀x:Int,1<=x->x<=n->N' x=N x\/(0<=N' x/\N' x<=n))(vL:∀x:Int,1<=x->x<=n->L' x=L x\/(1<=L' x/\L' x<=n))(vS:∀x:Int,1<=x->x<=n->S' x=S x\/(-1<=S' x/\S' x<=n/\(0<S' x->1<=L (S' x))))(hw:WkB n w')(I':(0<=p.pc/\p.pc<=6)\/(10<=p.pc/\p.pc<=30))(hp:(-1<=p.a/\p.a<=n)/\(-1<=p.b/\p.b<=n))(ha:p.pc=4\/(17<=p.pc/\p.pc≠28)->1<=p.a)(I:(14<=p.pc/\p.pc<=15)\/(20<=p.pc/\p.pc<=22)\/(25<=p.pc/\p.pc<=28)->1<=p.b)(hc:p.pc=15\/p.pc=21\/p.pc=26->1<=p.c/\p.c<=n)(hg:12<=p.pc/\p.pc≠22->0<p.b->1<=L' p.b)(Ow:18<=p.pc/\p.pc<=22->1<=w'.last)(MZ:p.pc=18->w'.way=true)(UW:19<=p.pc/\p.pc<=22->1<=w'.found)(U0:w'=w\/10<=(σ i).pc):CtI n t' N' S' L' w' σ':=by
  have Y:σ' i=p:=by rw[hs,if_pos rfl]
  have V:∀j,j≠i->σ' j=σ j:=λj e=>by rw[hs,if_neg e]
  refine⟨ht,v1,λx h1 O=>?_,λx h1 O=>?_,λx h1 O=>?_,hw,?_,?_,?_,?_,?_,?_,?_,?_,?_⟩;. grind [h.vN x h1 O]
  . grind [h.vL x h1 O]
  . have h3:=h.vS x h1 O;have h4:=vL (S' x);have h5:=vS x h1 O;grind
  all_goals
    intro j H;have h1:=h.sp j H;have O:=h.pcs j H;have h3:=h.a1 j H;have h4:=h.b1 j H;have h5:=h.c1 j H;have h6:=h.gd j H;have h7:=h.w1 j H;have h8:=h.w2 j H;have OG:=h.w3 j H;have h9:=vL (σ j).b;have h10:=h.tk.one i j hi H;by_cases e:j=i;. subst e;rw[Y];grind
    . rw[V j e];grind [jh]
def oZ{m:Nat}(wl:W.length=m)(a v b:Int):ldW (stW W a v) b=if b=a/\1<=a/\a<=m then v else ldW W b:=by exact abi
theorem xm(wl:W.length=2+3*n)(x v:Int)(h1:1<=x)(H:x<=n):ldW (stW W (cN x) v) 1=ldW W 1/\aN (stW W (cN x) v)=updF (aN W) x v/\aS (stW W (cN x) v)=aS W/\aL (stW W (cN x) v)=aL W:=by simp only[funext_iff,updF,aN,aS,aL,oZ wl,cN,cS,cL];refine⟨?_,λy=>?_,λy=>?_,λy=>?_⟩<;>grind
theorem xn(wl:W.length=2+3*n)(x v:Int)(h1:1<=x)(H:x<=n):ldW (stW W (cS x) v) 1=ldW W 1/\aN (stW W (cS x) v)=aN W/\aS (stW W (cS x) v)=updF (aS W) x v/\aL (stW W (cS x) v)=aL W:=by simp only[funext_iff,updF,aN,aS,aL,oZ wl,cN,cS,cL];refine⟨?_,λy=>?_,λy=>?_,λy=>?_⟩<;>grind
theorem xj(wl:W.length=2+3*n)(x v:Int)(h1:1<=x)(H:x<=n):ldW (stW W (cL x) v) 1=ldW W 1/\aN (stW W (cL x) v)=aN W/\aS (stW W (cL x) v)=aS W/\aL (stW W (cL x) v)=updF (aL W) x v:=by simp only[funext_iff,updF,aN,aS,aL,oZ wl,cN,cS,cL];refine⟨?_,λy=>?_,λy=>?_,λy=>?_⟩<;>grind
theorem xh(wl:W.length=2+3*n)(v:Int):ldW (stW W 1 v) 1=v/\aN (stW W 1 v)=aN W/\aS (stW W 1 v)=aS W/\aL (stW W 1 v)=aL W:=by simp only[funext_iff,aN,aS,aL,oZ wl,cN,cS,cL];refine⟨?_,λy=>?_,λy=>?_,λy=>?_⟩<;>grind
theorem xi(wl:W.length=2+3*n)(v:Int):ldW (stW W 2 v) 1=ldW W 1/\aN (stW W 2 v)=aN W/\aS (stW W 2 v)=aS W/\aL (stW W 2 v)=aL W:=by simp only[funext_iff,aN,aS,aL,oZ wl,cN,cS,cL];refine⟨?_,λy=>?_,λy=>?_,λy=>?_⟩<;>grind
theorem CtS.go(k:CtS n h)(node:Nat->Int)(bud:Int){i:Nat}(hi:i<n){p:Sp}(O:p=sv h.S i)(h0:¬(p.pc=0\/p.pc=10)){r:Ar×Wk×Sp}(V:r=ah n node bud h i p):CtS n ⟨r.1,r.2.1,h.S.set i r.2.2⟩:=by
 have H:=k.i;have hs:∀q,sv (h.S.set i q)=λj=>if j=i then q else sv h.S j:=λq=>by funext j;rw[bh];grind [k.len]
 have lN:∀x,1<=x->ldW h.ar.W (cN x)=aN h.ar.W x:=λx hx=>by unfold aN;rw[if_pos hx]
 have lS:∀x,1<=x->ldW h.ar.W (cS x)=aS h.ar.W x:=λx hx=>by unfold aS;rw[if_pos hx]
 have lL:∀x,1<=x->ldW h.ar.W (cL x)=aL h.ar.W x:=λx hx=>by unfold aL;rw[if_pos hx]
 have h1:=H.sp i hi;have h2:=H.pcs i hi;have h3:=H.a1 i hi;have h4:=H.b1 i hi;have h5:=H.c1 i hi;have h6:=H.gd i hi;have h7:=H.w1 i hi;have h8:=H.w2 i hi;have h9:=H.w3 i hi;have v1:=H.v1;have wb:=H.wb;have ab:=wb.1;have ad:=wb.2.1;have tk:=uC (node:=node) wb;have bk:∀x v,WkB n (gW n node h.wk x v)/\((gW n node h.wk x v).way=true->1<=(gW n node h.wk x v).last):=λx v=>by have:=uC (n:=n) (node:=node) (w:={h.wk with node:=v,passed:=0,last:=0,found:=0}) (by unfold WkB;simp) x;unfold gW;exact⟨this.1,this.2.1⟩
 have MJ:∀y,cK h.ar 1 y=decide (ldW h.ar.W 1=y):=λy=>by unfold cK;rw[aT.2 (by rw[k.wln];omega)];rfl
 obtain⟨x,hx⟩:=LE (numT i);have Y:(i:Int)+1=x:=hx.symm;have I:1<=x/\x<=n:=by unfold numT at hx;omega
 have fN:=H.vN x I.1 I.2;have fS:=H.vS x I.1 I.2;have fL:=H.vL p.b;rw[<-O]at h1 h2 h3 h4 h5 h6 h7 h8 h9;have hq:(sv h.S i).pc=p.pc:=by rw[O]
 obtain⟨pc,a,b,z⟩:=p;simp only at h1 h2 h3 h4 h5 h6 h7 h8 h9 h0 fL hq;have hc:pc=1\/pc=2\/pc=3\/pc=4\/pc=5\/pc=6\/pc=11\/pc=12\/pc=13\/pc=14\/pc=15\/pc=16\/pc=17\/pc=18\/pc=19\/pc=20\/pc=21\/pc=22\/pc=23\/pc=24\/pc=25\/pc=26\/pc=27\/pc=28\/pc=29\/pc=30:=by omega
 rcases hc with rfl|rfl|rfl|rfl|rfl|rfl|rfl|rfl|rfl|rfl|rfl|rfl|rfl|rfl|rfl|rfl|rfl|rfl|rfl|rfl|rfl|rfl|rfl|rfl|rfl|rfl
 all_goals simp[ah,inC,jQ,mI,d9,eH,Y,MJ,lN x I.1,lS x I.1]at V;repeat' split at V
 all_goals subst V;refine⟨?_,by simp[k.len],?_⟩
 all_goals try simp only[ay,aQ,dQ,d7,gX]
 all_goals try first|(simp only[bQ,k.wln];done)|(split<;>simp only[bQ,k.wln];done)
 all_goals clear O
 all_goals try simp only[MJ,decide_eq_true_eq]
 all_goals try first|rw[if_pos ahR]|rw[if_neg ahR]
 all_goals try first
  |rw[(xm k.wln _ _ ahy ahy).1,(xm k.wln _ _ ahy ahy).2.1,(xm k.wln _ _ ahy ahy).2.2.1,(xm k.wln _ _ ahy ahy).2.2.2]
  |rw[(xn k.wln _ _ ahy ahy).1,(xn k.wln _ _ ahy ahy).2.1,(xn k.wln _ _ ahy ahy).2.2.1,(xn k.wln _ _ ahy ahy).2.2.2]
  |rw[(xj k.wln _ _ ahy ahy).1,(xj k.wln _ _ ahy ahy).2.1,(xj k.wln _ _ ahy ahy).2.2.1,(xj k.wln _ _ ahy ahy).2.2.2]
  |rw[(xh k.wln _).1,(xh k.wln _).2.1,(xh k.wln _).2.2.1,(xh k.wln _).2.2.2]
  |rw[(xi k.wln _).1,(xi k.wln _).2.1,(xi k.wln _).2.2.1,(xi k.wln _).2.2.2]
 all_goals try rw[lL b ahy]
 all_goals refine H.upd hi (λj=>congrFun (hs _) j) ?_ ?_ ?_ ?_ ?_ ?_ ?_ ?_ ?_ ?_ ?_ ?_ ?_ ?_ ?_ ?_
 all_goals try dsimp only
 all_goals try omega
 all_goals try exact λ_ _ _=> .inl rfl
 all_goals try (intro y _ _;simp only[updF];split;(right;omega);exact .inl rfl)
 all_goals try first|exact .inl rfl|(right;omega)
 all_goals try first
  |exact H.tk.own hi (λj=>congrFun (hs _) j) ahy aiM aip
  |exact H.tk.o hi (λj=>congrFun (hs _) j) ahy ahA ahM aiq
  |exact H.tk.low hi (λj=>congrFun (hs _) j) (by first|exact .inl ahM|exact .inr (.inl ⟨by dsimp only;omega,by rw[<-hx,gR];simp⟩)|exact .inr (.inr ⟨by omega,by dsimp only;omega,rfl⟩)) ahA aiM
  |exact H.tk.door hi (λj=>congrFun (hs _) j) ahy ahM ahy
  |exact H.tk.ent hi (λj=>congrFun (hs _) j) ahy (by rw[<-hx];assumption)
 all_goals grind [dS,gW,updF]
def gL{S:List Sp}{i:Nat}(h:i<S.length):getS S (i:Int)=sv S i:=by unfold getS sv;rw[if_pos ⟨by omega,by omega⟩,Int.toNat_natCast]
def CtS.step(k:CtS n h)(node:Nat->Int)(bud:Int){i:Nat}(hi:i<n):CtS n (fH n node bud h i).1:=by
 unfold fH;split;.rename_i hc;rw[gL (by rw[k.len];exact hi),Int.toNat_natCast]at *;exact k.go node bud hi rfl ahy rfl
 .exact k
theorem CtS.beg(k:CtS n h){i:Nat}(hi:i<n){u:Int}(H:(u=0/\v=1)\/(u=10/\v=11)):CtS n (bX h i u v).1:=by
 unfold bX;split
 .rename_i hc;rw[gL (by rw[k.len];exact hi),Int.toNat_natCast]at *;have hs:∀j,sv (h.S.set i {sv h.S i with pc:=v}) j=if j=i then {sv h.S i with pc:=v} else sv h.S j:=λj=>by rw[bh];grind [k.len]
  refine⟨?_,by simp[k.len],k.wln⟩;refine k.i.upd hi hs ?_ k.i.v1 (λ_ _ _=> .inl rfl) (λ_ _ _=> .inl rfl) (λ_ _ _=> .inl rfl) k.i.wb ahM (k.i.sp i hi) ?_ ?_ ?_ ?_ ?_ ?_ ?_ (.inl rfl)
  .rcases H with⟨rfl,rfl⟩|⟨rfl,rfl⟩
   .exact k.i.tk.low hi hs (.inl ahM) ahA (λ_ _=>rfl)
   .exact k.i.tk.own hi hs ahy (λ_ _=>rfl) (.inl rfl)
  all_goals (dsimp only;intros;omega)
 .exact k
def CtS.one(k:CtS n h){i:Nat}(hi:i<n)(H:j<n)(h1:(sv h.S i).pc=10)(I:(sv h.S j).pc=10):i=j:=k.i.tk.one i j hi H (.inl ahy) (.inl ahy)
end
end
end Go.Proofs.YtglokdbiggbkjaaGreat
