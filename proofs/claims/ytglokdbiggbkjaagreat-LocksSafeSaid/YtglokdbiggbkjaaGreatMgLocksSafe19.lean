/- Joined texts. -/
import Derived.StillTailTactics
import Derived.Deep.RegionHeld3
import Derived.Test.YtglokdbiggbkjaaGreatMgLocksSafe0
import Derived.Test.YtglokdbiggbkjaaGreatMgLocksSafe1
import Derived.Test.YtglokdbiggbkjaaGreatMgLocksSafe2
import Derived.Test.YtglokdbiggbkjaaGreatMgLocksSafe3
import Derived.Test.YtglokdbiggbkjaaGreatMgLocksSafe4
import Derived.Test.YtglokdbiggbkjaaGreatMgLocksSafe5
import Derived.Test.YtglokdbiggbkjaaGreatMgLocksSafe18
set_option linter.unusedVariables false
set_option linter.unusedSimpArgs false
set_option maxRecDepth 100000
set_option maxHeartbeats 16000000
namespace Go.Proofs.YtglokdbiggbkjaaGreat
section
open Go.RowKit
section
variable{T:HTr}{bud:Int}{m m':Hm}{O O':Nat->Nat->Option Nat}{i:Nat}
theorem rl.act{s:Sp}{K:Nat}{sp:Nat->Nat->Sp}{sg:Nat->Nat->Int}(k:TSt T sp sg i s K)(h0:¬(s.pc=0\/s.pc=10)):∃c:Nat,s.c=c/\c<T.D/\c<K/\(sp (T.pl i c) (T.sl i c)).pc≠0/\(sp (T.pl i c) (T.sl i c)).pc≠10:=by
 cases k with
 |rest h=>exact absurd (.inl h) h0
 |come c h ha hg hb=>exact⟨c,h.2.1,h.2.2,Nat.lt_succ_self _,by omega,by omega⟩
 |granted c h ha hb=>exact⟨c,h.2.1,h.2.2,h.2.2,by omega,by omega⟩
 |hold h hb=>exact absurd (.inr h) h0
 |pass c h ha hb=>exact⟨c,h.2.1,by omega,by omega,by omega,by omega⟩
 |leave c h ha hc hb=>exact⟨c,h.2.1,h.2.2,Nat.lt_succ_self _,by omega,by omega⟩
theorem wG (hT:T.Ok){i u c:Nat}(hi:i<T.n)(hu:u<T.n)(h:T.pl i c=T.pl u c):∀d,c+d+1<T.D->T.pl i (c+d+1)=T.pl u (c+d+1)/\T.sl i (c+d+1)=T.sl u (c+d+1)
 |0,hd=>hT.up i u c hi hu hd h
 |d+1,hd=>hT.up i u (c+d+1) hi hu hd (wG hT hi hu h d QX).1
theorem dY.step (h:dY T bud m O)(hT:T.Ok)(hb0:0<=bud)(hi:i<T.n):∃O',dY T bud (kA T bud m i) O':=by
 unfold kA;by_cases c0:(sv m.S i).pc=0\/(sv m.S i).pc=10;·rw[if_pos c0];exact⟨O,h⟩
 rw[if_neg c0];have hx:=h.x i;obtain⟨K,kk,o⟩:=h.t i hi;obtain⟨c,hc,hcD,hcK,a0,a10⟩:=rl.act kk c0;rw[hc];simp only[Int.toNat_natCast];have hv:=hT.plt i c hi hcD;have hj:=hT.slt i c hi hcD;have ho:O (T.pl i c) (T.sl i c)=some i:=(o c hcD).2 hcK;have hlev:∀k,k<T.D->k≠c->T.pl i k≠T.pl i c:=λk hk hne e=>by have e1:=hT.lv i k hi hk;have e2:=hT.lv i c hi hcD;rw[e]at e1;omega
 obtain⟨v,hvd⟩:∃v,v=T.pl i c:=⟨_,rfl⟩;obtain⟨j,hjd⟩:∃j,j=T.sl i c:=⟨_,rfl⟩;have hva:=hx.va _ _ hv hj;rw[<-hvd]at hv hj ho hva a0 a10 hlev ⊢;rw[<-hjd]at hj ho hva a0 a10 ⊢;rw[if_neg (λe=>e.elim a0 a10)];have h0:¬((m.sp v j).pc=0\/(m.sp v j).pc=10):=λe=>e.elim a0 a10;obtain⟨x,hxd⟩:∃x,x=cQ (arW (m.W v)) 1 ((j:Int)+1) (sv (m.P v) j):=⟨_,rfl⟩;have Ri:RtS (T.nv v) x.1.W ((m.P v).set j x.2):=RtS.go (ar:=arW (m.W v)) (hx.rg v hv) (hT.nv32 v hv) hj rfl h0 hxd;obtain⟨R',Rs⟩:=RtS.case (ar:=arW (m.W v)) (hx.rg v hv) (hT.nv32 v hv) hj rfl h0 hxd;have R:RC (T.nv v) (m.W v) x.1.W (m.P v) j (m.sp v j) x.2:=R';clear R';have hm1:dP m v j={m with W:=aW m.W v x.1.W,P:=aW m.P v ((m.P v).set j x.2)}:=by rw[hxd];rfl
 have hlen:j<(m.P v).length:=by rw[hx.len hv];exact hj
 have hsp:∀a b,(dP m v j).sp a b=if a=v/\b=j then x.2 else m.sp a b:=λa b=>by rw[hm1];exact fP m v j x.2 hlen a b
 have hs1:(dP m v j).sp v j=x.2:=by rw[hsp,if_pos ⟨rfl,rfl⟩]
 have hsg1:(dP m v j).sg v j=rS x.1.W (numT j):=by rw[hm1];show rS (aW m.W v x.1.W v) (numT j)=_;rw[aV]
 rw[hs1];have hS:(dP m v j).S=m.S:=rfl;have hsame:∀k,k<T.D->k≠c->(dP m v j).sp (T.pl i k) (T.sl i k)=m.sp (T.pl i k) (T.sl i k):=λk hk hne=>by rw[hsp,if_neg (λe=>hlev k hk hne e.1)]
 have ng:¬((m.sp v j).pc=14\/(m.sp v j).pc=16)->wK bud x.2->(x.2.pc=5->rS x.1.W (numT j)=0)->HX T bud (dP m v j) O i:=λe1 e2 e3=>by rw[hm1];exact hx.rung hv hj ho x.1.W x.2 Ri (Rs e1) e2 e3
 have fin:∀{K:Nat},HX T bud (dP m v j) O i->TSt T (dP m v j).sp (dP m v j).sg i (sv m.S i) K->(∀k,k<T.D->(O (T.pl i k) (T.sl i k)=some i↔k<K))->∃O',dY T bud (dP m v j) O':=λhx1 k1 o1=>⟨_,.of hx1 ⟨_,k1,o1⟩⟩;have va0:∀p:Sp,¬(p.pc=10\/p.pc=15\/p.pc=16)->wK bud p:=λp hp=>⟨λe=>absurd e hp,λe=>absurd (.inr e) hp⟩;cases kk with
 |rest hh=>exact absurd (.inl hh) c0
 |hold hh _=>exact absurd (.inr hh) c0
 |come c' hh ha hg hb=>
  obtain rfl:c=c':=by have:=hh.2.1;omega
  rw[<-hvd,<-hjd]at ha hg
  have stay:1<=x.2.pc->x.2.pc<=6->(x.2.pc=5->¬0<rS x.1.W (numT j))->TSt T (dP m v j).sp (dP m v j).sg i (sv m.S i) (c+1):=λe1 e2 e3=>by
   refine .come c hh ?_ (λe5=>?_) λk hk=>?_;·rw[<-hvd,<-hjd,hs1];exact⟨e1,e2⟩
   ·rw[<-hvd,<-hjd]at e5 ⊢;rw[hs1]at e5;rw[hsg1];exact e3 e5
   ·exact JM
  cases R with
  |come e=>obtain⟨e1,e2,e3,e4⟩:=e;rw[if_pos QX];exact fin (ng QX (va0 _ QX) e3) (stay e2.1 e2.2 (λe=>by rw[e3 e];decide)) o
  |told e=>exact absurd e.2.2.1 (hg e.1)
  |hold e=>
   obtain⟨e1,e2,e3,e4⟩:=e;rw[if_neg (λhn=>hn (.inr e2)),if_pos hh.1];have hx1:=ng QX ⟨λ_=>by omega,λe=>by omega⟩ (λ_=>by omega);unfold j7;rw[<-hvd,<-hjd,hs1,hS]
   have low:∀k,k<=c->((dP m v j).sp (T.pl i k) (T.sl i k)).pc=10:=λk hk=>by
    by_cases e:k=c;·subst e;rw[<-hvd,<-hjd,hs1];exact e2
    ·rw[hsame k QX e];exact hb k QX
   by_cases hD:c+1=T.D;·rw[if_pos (.inr hD)];exact⟨_,.of (hx1.thr _) (ia (K:=T.D) (sf hx1 hi) (.hold rfl λk hk=>low k QX) λk hk=>by rw[o k hk];omega)⟩
   ·rw[if_neg QX];have hcD1:c+1<T.D:=(by omega);have hn:O (T.pl i (c+1)) (T.sl i (c+1))=none:=hx1.upNone hT hi hcD1 (.inl (by have:=low c (Nat.le_refl _);show 6<=((dP m v j).sp _ _).pc;omega)) (by rw[<-hvd,<-hjd];exact ho) (λe=>by have:=(o (c+1) hcD1).1 e;omega);have hv1:=hT.plt i (c+1) hi hcD1;have hj1:=hT.slt i (c+1) hi hcD1;have h0:=hx1.fr _ _ hv1 hj1 hn;have e:kr (dP m v j) (T.pl i (c+1)) (T.sl i (c+1))=(dP m v j).slot (T.pl i (c+1)) (T.sl i (c+1)) {(dP m v j).sp (T.pl i (c+1)) (T.sl i (c+1))with pc:=1}:=(by unfold kr;rw[if_pos h0]);rw[e];have h2:=hx1.ask hi hcD1 hT hn {(dP m v j).sp (T.pl i (c+1)) (T.sl i (c+1))with pc:=1} rfl;have hsp2:=fP (dP m v j) (T.pl i (c+1)) (T.sl i (c+1)) {(dP m v j).sp (T.pl i (c+1)) (T.sl i (c+1))with pc:=1} (by rw[hx1.len hv1];exact hj1);have hl2:∀k,k<T.D->k≠c+1->¬(T.pl i k=T.pl i (c+1)/\T.sl i k=T.sl i (c+1)):=λk hk hne e=>by have e1:=hT.lv i k hi hk;have e2:=hT.lv i (c+1) hi hcD1;rw[e.1]at e1;omega
    refine⟨_,.of (h2.thr _) (ia (K:=c+1+1) (sf h2 hi) (.come (c+1) ⟨hh.1,by show(c:Int)+1=((c+1:Nat):Int);omega,hcD1⟩ ?_ (λe5=>?_) λk hk=>?_) λk hk=>?_)⟩;·rw[hsp2,if_pos ⟨rfl,rfl⟩];exact⟨by show(1:Int)<=1;decide,by show(1:Int)<=6;decide⟩
    ·rw[hsp2,if_pos ⟨rfl,rfl⟩]at e5;exact absurd e5 (by show ¬(1:Int)=5;decide)
    ·rw[hsp2,if_neg (hl2 k QX QX)];exact low k QX
    ·by_cases e:k=c+1;·subst e;rw[fO];exact⟨λ_=>by omega,λ_=>rfl⟩
     ·rw[fb (hl2 k hk e),o k hk];omega
  |o e=>have:=e.1;omega
  |free e=>have:=e.1;omega
  |give s e=>have:=e.1;omega
  |look e=>have:=e.1;omega
 |granted c' hh ha hb=>
  obtain rfl:c=c':=by have:=hh.2.1;omega
  rw[<-hvd,<-hjd]at ha;have ha2:0<rS (m.W v) (numT j):=ha.2;cases R with
  |told e=>obtain⟨e1,e2,e3,e4,e5⟩:=e;rw[if_neg (λhn=>hn (.inr e2)),if_pos hh.1];have hsa:=hx.sa v j hv hj ha.1;have hsa':rS (m.W v) (numT j)=0\/rS (m.W v) (numT j)= -1\/(1<=rS (m.W v) (numT j)/\rS (m.W v) (numT j)<=bud+1):=hsa;have hx1:=ng QX ⟨λ_=>by omega,λe=>by omega⟩ (λ_=>by omega);unfold j7;rw[<-hvd,<-hjd,hs1,hS,if_pos (.inl e5)];refine⟨_,.of (hx1.thr _) (ia (K:=T.D) (sf hx1 hi) (.hold rfl λk hk=>?_) o)⟩;exact JN
  |come e=>exact absurd ⟨ha.1,ha2⟩ e.2.2.2
  |hold e=>have:=e.1;omega
  |o e=>have:=e.1;omega
  |free e=>have:=e.1;omega
  |give s e=>have:=e.1;omega
  |look e=>have:=e.1;omega
 |pass c' hh ha hb=>
  obtain rfl:c=c':=by have:=hh.2.1;omega
  rw[<-hvd,<-hjd]at ha;cases R with
  |look e=>
   obtain⟨e1,e2,e3,e4⟩:=e;have v1:=hva.1 (.inr (.inl e1));have v2:=hva.2 (.inl e1);have hx1:=ng QX ⟨λ_=>by omega,λ_=>by omega⟩ (λ_=>by omega);rcases e2 with e2|e2
   ·rw[if_neg (λhn=>hn (.inr e2)),if_neg QX,if_neg QX];refine⟨_,uZ hT hi T.D _ (c+1) hx1 (λk hk=>(o k hk).2 hk) (λk hk=>?_) hh.2.2 QX⟩;exact JN
   ·rw[if_pos QX];refine fin hx1 (.pass c hh ?_ λk hk hne=>?_) o;·rw[<-hvd,<-hjd,hs1];exact .inr e2
    ·rw[hsame k hk hne];exact hb k hk hne
  |give s e=>
   obtain⟨e1,e2,⟨hsn,hsj⟩,e5,e50,e6,e7⟩:=e;have e1':(m.sp v j).pc=16:=(by omega);have v1:=hva.1 (.inr (.inr e1'));have v2:=hva.2 (.inr e1');obtain⟨u,hu⟩:∃u,O v s=some u:=by exact JO
   obtain⟨hun,k,hk,h1,h2⟩:=hx.ow v s u hu;obtain rfl:c=k:=by exact JP
   have hup:∀k,c<k->k<T.D->T.pl i k=T.pl u k/\T.sl i k=T.sl u k:=λk hk1 hk2=>by obtain⟨d,rfl⟩:∃d,k=c+d+1:=⟨k-c-1,by omega⟩;exact wG hT hi hun (by rw[<-hvd];exact h1) d hk2
   have hpos:0<rS x.1.W (numT s):=by omega
   obtain⟨_,hui,O',hg,hgo,_⟩:=hx.give hT hv hj ho x.1.W x.2 e2 hsn hsj Ri e5 e50 e7 (.inr QX) hu hcD h1 h2 (λ_ k hk1 hk2=>by
    rw[<-(hup k hk1 hk2).1,<-(hup k hk1 hk2).2]
    exact⟨hb k hk2 QX,(o k hk2).2 hk2⟩)
   rw[<-hm1]at hg;have hO':=hgo hpos;rw[if_neg (λhn=>hn (.inl e2)),if_neg QX,if_pos e2];have out:∀k,k<=c->¬∃k',c<k'/\k'<T.D/\T.pl i k=T.pl u k'/\T.sl i k=T.sl u k':=λk hkc ⟨k',h3,h4,h5,_⟩=>by have l1:=hT.lv i k hi QX;have l2:=hT.lv u k' hun h4;rw[h5]at l1;omega
   have hov:O' v j=some i:=(by rw[hO',hvd,hjd,je (out c (Nat.le_refl _)),<-hvd,<-hjd];exact ho);have hrel:=hg.release (by rw[hs1];exact e2) hov;refine⟨_,nE hrel hT hi hcD (λk hk=>?_) λk hk=>?_⟩
   ·by_cases e:k=c;·exact JQ
    ·rw[fb (λe'=>hlev k hk e e'.1),hO'];rcases Nat.lt_or_ge k c with h3|h3
     ·rw[je (out k QX),o k hk];omega
     ·rw[(hup k QX hk).1,(hup k QX hk).2,oS QX hk];exact⟨λh=>(by injection h with h;exact absurd h hui),λh=>by omega⟩
   ·rw[hsame k QX QX];exact hb k QX QX
  |come e=>have:=e.1;omega
  |told e=>have:=e.1;omega
  |hold e=>have:=e.1;omega
  |free e=>have:=e.1;omega
  |o e=>have:=e.1;omega
 |leave c' hh ha hcf hb=>
  obtain rfl:c=c':=by have:=hh.2.1;omega
  rw[<-hvd,<-hjd]at ha hcf;cases R with
  |o e=>
   obtain⟨e1,e6,e3⟩:=e;rw[if_pos QX];refine fin (ng QX (va0 _ QX) (λ_=>by omega)) (.leave c hh ?_ ?_ λk hk=>?_) o;·rw[<-hvd,<-hjd,hs1];exact⟨by omega,e6.2⟩
   ·rw[<-hvd,<-hjd,hs1,e3];exact hcf
   ·exact JM
  |free e=>obtain⟨e1,e2⟩:=e;rw[if_neg (λhn=>hn (.inl e2)),if_neg QX,if_pos e2];have hx1:=ng QX (va0 _ QX) (λ_=>by omega);have hrel:=hx1.release (by rw[hs1];exact e2) ho;exact JR
  |give s e=>
   obtain⟨e1,e2,⟨hsn,hsj⟩,e5,e50,e6,e7⟩:=e;have e1':(m.sp v j).pc=14:=(by omega);obtain⟨u,hu⟩:∃u,O v s=some u:=by exact JO
   obtain⟨hun,k,hk,h1,h2⟩:=hx.ow v s u hu;obtain rfl:c=k:=by exact JP
   have hval:(c+1=T.D/\rS x.1.W (numT s)=1)\/(c+1≠T.D/\rS x.1.W (numT s)= -1):=by
    rw[e6,hcf];by_cases e:c+1=T.D;·exact .inl ⟨e,by rw[if_pos e]⟩
    ·exact .inr ⟨e,by rw[if_neg e]⟩
   obtain⟨_,hui,O',hg,hgo,hgn⟩:=hx.give hT hv hj ho x.1.W x.2 e2 hsn hsj Ri e5 e50 e7 QX hu hcD h1 h2 (λhp k hk1 hk2=>by omega);rw[<-hm1]at hg
   have hO':O'=O:=by
    rcases hval with⟨e7,e8⟩|⟨e7,e8⟩
    ·rw[hgo QX];funext a b;exact je fun⟨k',h3,h4,_⟩=>by omega
    ·exact hgn QX
   rw[hO']at hg;rw[if_neg (λhn=>hn (.inl e2)),if_neg QX,if_pos e2];have hrel:=hg.release (by rw[hs1];exact e2) ho;exact JR
  |come e=>have:=e.1;omega
  |told e=>have:=e.1;omega
  |hold e=>have:=e.1;omega
  |look e=>have:=e.1;omega
end
end
section
open Go.RowKit
def hm0 (T:HTr):Hm:=⟨λv=>List.replicate (2*T.nv v+1) 0,λv=>List.replicate (T.nv v) Sp.zero,List.replicate T.n Sp.zero⟩
theorem qZ (n i:Nat):sv (List.replicate n Sp.zero) i=Sp.zero:=by unfold sv;rw[List.getD_eq_getElem?_getD,List.getElem?_replicate];split<;>rfl
theorem RtS.start (n:Nat):RtS n (List.replicate (2*n+1) 0) (List.replicate n Sp.zero):=by
 have h0:∀x,ldW (List.replicate (2*n+1) 0) x=0:=λx=>by
  unfold ldW;split;·rw[List.getD_eq_getElem?_getD,List.getElem?_replicate];split<;>rfl
  ·rfl
 have hN:∀x,rN (List.replicate (2*n+1) 0) x=0:=λx=>by unfold rN;split<;>first|exact h0 _|rfl
 have hS:∀x,rS (List.replicate (2*n+1) 0) x=0:=λx=>by unfold rS;split<;>first|exact h0 _|rfl
 have hs:∀i,sv (List.replicate n Sp.zero) i=Sp.zero:=λi=>qZ _ _
 have nk:∀i,¬Fl (rS (List.replicate (2*n+1) 0)) (sv (List.replicate n Sp.zero)) i:=λi h=>by
  rcases h with h|h
  ·rw[hs]at h;exact absurd h QZ
  ·exact h.2 (hS _)
 have z:∀i,(sv (List.replicate n Sp.zero) i).pc=0:=λi=>by rw[hs];rfl
 refine⟨⟨⟨λi j _ _ h=>absurd h (nk i),λ_ i _=>nk i⟩,by rw[h0];omega,λi _=>by rw[z];omega,λi _ _=>hS _,λi _ _=>hN _,λi _ h=>?_,λi _ h=>?_,λi j _ _ h=>?_,λj _ h=>?_,λj k _ _ h=>?_,λi _ h=>?_,λi _ h=>?_⟩,by simp,by simp⟩;·rw[h0]at h;exact absurd h (by unfold numT;omega)
 all_goals rw[z]at h;omega
theorem dY.start (T:HTr)(bud:Int):dY T bud (hm0 T) (λ_ _=>none):=by have hs:∀v j,(hm0 T).sp v j=Sp.zero:=λv j=>qZ _ _;have hS:∀t,sv (hm0 T).S t=Sp.zero:=λt=>qZ _ _;have ht:∀t,rl T (hm0 T) (λ_ _=>none) t:=λt=>⟨0,.rest (by rw[hS];rfl),λk hk=>⟨λh=>(by cases h),λh=>absurd h (Nat.not_lt_zero _)⟩⟩;refine⟨λi=>⟨λv hv=>RtS.start _,by simp[hm0],λv j t h=>(by cases h),λv j _ _ _=>by rw[hs];rfl,λt _ _=>ht t,λv j _ _=>?_,λv j _ _ h=>by rw[hs]at h;exact absurd h QZ⟩,λt _=>ht t⟩;rw[hs];exact⟨λe=>absurd e QZ,λe=>absurd e QZ⟩
theorem re (m:Hm)(v j:Nat)(u c:Int):(gh m v j u c).S=m.S:=by unfold gh;split<;>rfl
theorem D3 (m:Hm)(v j:Nat):(kr m v j).S=m.S:=by unfold kr;split<;>rfl
end
section
open Go.RowKit
theorem uV{P:List Int}{v:Int}(h:v<0):upL P v=[]:=wF h
theorem Hg{P:List Int}(h:dN P=true):∀(v:Nat),v<P.length->(upL P v).length=depL P v/\∀(i:Nat) (u:Int),(upL P v)[i]? =some u->0<=u/\u<P.length/\(upL P v).drop i=upL P u/\depL P u+i=depL P v:=by
 intro v;induction v using Nat.strongRecOn with
 |_ v ih=>
  intro hv;obtain⟨p,hp⟩:=aj hv;have hl:=gx h hp;rw[gc h hp,Ir h hp];by_cases h0:0<=p
  ·obtain⟨n,rfl⟩:=Int.eq_ofNat_of_zero_le h0;obtain⟨h1,h2⟩:=ih n QX QX;rw[if_pos h0];refine⟨by rw[List.length_cons,h1],λi u hu=>?_⟩;cases i with
   |zero=>simp at hu;subst hu;exact⟨by omega,by omega,by rw[List.drop_zero,gc h hp],by rw[Ir h hp,if_pos h0]⟩
   |succ i=>rw[List.getElem?_cons_succ]at hu;obtain⟨a1,a2,a3,a4⟩:=h2 i u hu;exact⟨a1,a2,by rw[List.drop_succ_cons];exact a3,by omega⟩
  ·rw[if_neg h0,uV QX];refine⟨rfl,λi u hu=>?_⟩;cases i with
   |zero=>simp at hu;subst hu;exact⟨by omega,by omega,by rw[List.drop_zero,gc h hp,uV QX],by rw[Ir h hp,if_neg h0]⟩
   |succ i=>simp at hu
theorem vx{P:List Int}{v:Nat}(hv:v<P.length):1<=depL P v:=nB hv
theorem oU{P:List Int}(h:dN P=true){x:Int}(h0:0<=x)(hl:x<P.length):(upL P x).length=depL P x/\∀(i:Nat) (u:Int),(upL P x)[i]? =some u->0<=u/\u<P.length/\(upL P x).drop i=upL P u/\depL P u+i=depL P x:=by obtain⟨n,rfl⟩:=Int.eq_ofNat_of_zero_le h0;exact Hg h n QX
theorem pQ{P:List Int}(h:dN P=true){x:Int}(h0:0<=x)(hl:x<P.length):1<=depL P x/\(upL P x)[depL P x-1]? =some 0:=by
 have hp:1<=depL P x:=by obtain⟨n,rfl⟩:=Int.eq_ofNat_of_zero_le h0;exact vx QX
 refine⟨hp,?_⟩;obtain⟨h1,h2⟩:=oU h h0 hl;obtain⟨u,hu⟩:=aj (show depL P x-1<(upL P x).length by omega);obtain⟨a1,a2,a3,a4⟩:=h2 _ u hu;obtain⟨n,rfl⟩:=Int.eq_ofNat_of_zero_le a1;obtain⟨p,hpp⟩:=aj (show n<P.length by omega);have hd:=Ir h hpp;have ht:=wD h hpp
 have hn0:n=0:=by
  rcases Nat.eq_zero_or_pos n with e|e
  ·exact e
  ·have hb:=ht.2 e;rw[if_pos hb.1]at hd;obtain⟨m,rfl⟩:=Int.eq_ofNat_of_zero_le hb.1;have:=vx (P:=P) (v:=m) QX;omega
 subst hn0;exact hu
end
section
open Go.RowKit
def mw (P:List Int)(p:Int)(k:Nat):List Int:=((List.range k).map Int.ofNat).filter λv=>decide (P.getD v.toNat 0=p)
def chL (P:List Int)(p:Int):List Int:=mw P p P.length
def nvT (P T:List Int)(v:Nat):Nat:=if chL P v=[]then max 1 (T.count (v:Int))else(chL P v).length
def plX (P:List Int)(x:Int)(k:Nat):Int:=(upL P x).getD k 0
def slX (P T:List Int)(i:Nat)(x:Int):Nat->Int
 |0=>cr T i
 |k+1=>fy (chL P (plX P x (k+1))) (plX P x k)
def cf (P T:List Int):HTr:=⟨(i3 P T).toNat,T.length,P.length,λt k=>(plX P (T.getD t 0) k).toNat,λt k=>(slX P T t (T.getD t 0) k).toNat,nvT P T,λv=>(i3 P T).toNat-depL P v⟩
theorem xo (P:List Int)(p:Int){k:Nat}{q:Int}(h:P[k]? =some q):mw P p (k+1)=if q=p then mw P p k++[(k:Int)]else mw P p k:=by
 unfold mw;rw[List.range_succ,List.map_append,List.filter_append];show _++List.filter _ [(k:Int)]=_;have e:P.getD (k:Int).toNat 0=q:=by rw[Int.toNat_natCast,ba h]
 by_cases hq:q=p;·rw[if_pos hq,List.filter_cons_of_pos (by simpa only[decide_eq_true_eq,e]using hq)];rfl
 ·have:¬P.getD (k:Int).toNat 0=p:=by rw[e];exact hq
  rw[if_neg hq,List.filter_cons_of_neg (by simpa only[decide_eq_true_eq]using this)];simp
theorem kD (P:List Int)(p:Int)(k:Nat):(mw P p k).length<=k:=by unfold mw;have:=List.length_filter_le (λv:Int=>decide (P.getD v.toNat 0=p)) ((List.range k).map Int.ofNat);simpa using this
theorem AL{P:List Int}{p:Int}{v:Nat}(h:P[v]? =some p):(v:Int)∈chL P p:=by unfold chL mw;rw[List.mem_filter];have:=(List.getElem?_eq_some_iff.1 h).1;refine⟨List.mem_map.2 ⟨v,List.mem_range.2 this,rfl⟩,?_⟩;simp only[decide_eq_true_eq,Int.toNat_natCast];exact ba h
theorem Ea{P:List Int}{p v:Int}(h:v∈chL P p):∃n:Nat,v=n/\P[n]? =some p:=by unfold chL mw at h;rw[List.mem_filter,List.mem_map]at h;obtain⟨⟨a,ha,rfl⟩,h2⟩:=h;have hl:=List.mem_range.1 ha;refine⟨a,rfl,?_⟩;simp only[decide_eq_true_eq]at h2;have e:(Int.ofNat a).toNat=a:=rfl;rw[e]at h2;obtain⟨q,hq⟩:=aj hl;rw[ba hq]at h2;rw[hq,h2]
theorem vJ{P:List Int}{x:Int}(h:da P x=true):chL P x=[]:=by
 cases hc:chL P x with
 |nil=>rfl
 |cons a l=>obtain⟨n,rfl,hn⟩:=Ea (P:=P) (p:=x) (v:=a) (by rw[hc];simp);exact absurd (List.mem_of_getElem? hn) (i7 h).2.2
structure XAt (P T:List Int)(i:Nat)(x:Int):Prop where
 at_:T[i]? =some x
 leaf:da P x=true
 len:(upL P x).length=(i3 P T).toNat
 up:∀k,k<(i3 P T).toNat->∃v:Nat,(upL P x)[k]? =some (v:Int)/\v<P.length/\plX P x k=v/\depL P v+k=(i3 P T).toNat/\(upL P x).drop k=upL P v
theorem xAt{P T:List Int}(h:a5 P T=0){i:Nat}(hi:i<T.length):∃x,XAt P T i x/\T.getD i 0=x:=by
 obtain⟨x,hx⟩:=aj hi;have hm:=jc (aR h).2.2.2 hx;have hl:=fz.1 hm;have a:=i7 hl;have d:=Cl h hm;have d':(i3 P T).toNat=depL P x:=by omega
 obtain⟨h1,h2⟩:=oU (aR h).2.1 a.1 a.2.1;refine⟨x,⟨hx,hl,by rw[h1,d'],λk hk=>?_⟩,ba hx⟩;obtain⟨u,hu⟩:=aj (show k<(upL P x).length by omega);obtain⟨a1,a2,a3,a4⟩:=h2 k u hu;obtain⟨v,rfl⟩:=Int.eq_ofNat_of_zero_le a1;exact⟨v,hu,by omega,by unfold plX;rw[ba hu],by omega,a3⟩
section
variable{P T:List Int}
theorem XAt.par (h:a5 P T=0){i:Nat}{x:Int}(a:XAt P T i x){k:Nat}(hk:k+1<(i3 P T).toNat){v u:Nat}(hv:plX P x k=v)(hu:plX P x (k+1)=u):P[v]? =some (u:Int):=by
 obtain⟨v',b1,b2,b3,b4,b5⟩:=a.up k QX;obtain⟨u',c1,c2,c3,c4,c5⟩:=a.up (k+1) hk;obtain rfl:v'=v:=by omega
 obtain rfl:u'=u:=by omega
 obtain⟨p,hp⟩:=aj b2;rw[gc (aR h).2.1 hp]at b5;have e:=congrArg (λl=>l[1]?) b5;simp only[List.getElem?_drop,List.getElem?_cons_succ]at e;rw[c1]at e;by_cases h0:0<=p;·obtain⟨n,rfl⟩:=Int.eq_ofNat_of_zero_le h0;have hpl:=gx (aR h).2.1 hp;obtain⟨q,hq⟩:=aj (show n<P.length by omega);rw[gc (aR h).2.1 hq]at e;simp at e;rw[hp,e]
 ·rw[uV QX]at e;simp at e
theorem XAt.above (h:a5 P T=0){i:Nat}{x:Int}(a:XAt P T i x){k:Nat}(hk:k+1<(i3 P T).toNat):∃v u j:Nat,plX P x k=v/\plX P x (k+1)=u/\v<P.length/\u<P.length/\slX P T i x (k+1)=j/\(chL P u)[j]? =some (v:Int):=by obtain⟨v,b1,b2,b3,b4,b5⟩:=a.up k QX;obtain⟨u,c1,c2,c3,c4,c5⟩:=a.up (k+1) hk;have hm:=AL (a.par h hk b3 c3);obtain⟨j,hj⟩:=Int.eq_ofNat_of_zero_le ((eI (chL P u) v).1.2 hm);refine⟨v,u,j,b3,c3,b2,c2,?_,mI hm hj⟩;show fy (chL P (plX P x (k+1))) (plX P x k)=j;rw[b3,c3];exact hj
theorem nw{T:List Int}{i u:Nat}{x:Int}(hi:T[i]? =some x)(hu:i<u):(T.take i).count x<(T.take u).count x:=by
 have e:T.take u=T.take (i+1)++(T.drop (i+1)).take (u-(i+1)):=by rw[<-List.take_add];congr 1;omega
 rw[e,dg hi,List.count_append,List.count_append];simp;omega
theorem jN (h:a5 P T=0):(cf P T).Ok:=by
 have hml:=bh (aR h).1;have slot0:∀t,t<T.length->∀x,T.getD t 0=x->slX P T t x 0=(((T.take t).count x:Nat):Int):=λt ht x hx=>by show cr T t=_;unfold cr;rw[hx]
 have hD:1<=(i3 P T).toNat:=by obtain⟨x,a,_⟩:=xAt h (show 0<T.length by omega);have b:=i7 a.leaf;obtain⟨h1,h2⟩:=pQ (aR h).2.1 b.1 b.2.1;rw[<-a.len,(oU (aR h).2.1 b.1 b.2.1).1];exact h1
 refine⟨hD,λt k ht hk=>?_,λt k ht hk=>?_,λv hv=>?_,λt k ht hk=>?_,λt u k ht hu hk e=>?_,λt u k ht hu hk e e2=>?_,λt u ht hu=>?_,λt u ht hu e e2=>?_⟩;·obtain⟨x,a,ex⟩:=xAt h ht;obtain⟨v,b1,b2,b3,_⟩:=a.up k hk;show(plX P (T.getD t 0) k).toNat<P.length;rw[ex,b3];exact b2
 ·obtain⟨x,a,ex⟩:=xAt h ht;show(slX P T t (T.getD t 0) k).toNat<nvT P T (plX P (T.getD t 0) k).toNat;rw[ex];cases k with
  |zero=>have a0:=i7 a.leaf;obtain⟨n,rfl⟩:=Int.eq_ofNat_of_zero_le a0.1;obtain⟨v,b1,b2,b3,b4,b5⟩:=a.up 0 hk;have e:plX P (n:Int) 0=n:=(by obtain⟨p,hp⟩:=aj (show n<P.length by omega);unfold plX;rw[gc (aR h).2.1 hp];rfl);rw[e,slot0 t ht _ ex,Int.toNat_natCast,Int.toNat_natCast];have c:=nw a.at_ (show t<T.length from ht);rw[List.take_length]at c;unfold nvT;rw[if_pos (vJ a.leaf)];omega
  |succ k=>obtain⟨v,u,j,b1,b2,b3,b4,b5,b6⟩:=a.above h hk;rw[b5,b2,Int.toNat_natCast,Int.toNat_natCast];have:=(List.getElem?_eq_some_iff.1 b6).1;unfold nvT;rw[if_neg (λe=>by rw[e]at this;exact absurd this (Nat.not_lt_zero _))];exact this
 ·show nvT P T v<=32;unfold nvT;have h1:=kD P v P.length;have h2:=List.count_le_length (a:=(v:Int)) (l:=T);split;·omega
  ·show(mw P v P.length).length<=32;omega
 ·obtain⟨x,a,ex⟩:=xAt h ht;obtain⟨v,b1,b2,b3,b4,_⟩:=a.up k hk;show(i3 P T).toNat-depL P (((plX P (T.getD t 0) k).toNat:Nat):Int)=k;rw[ex,b3,Int.toNat_natCast];omega
 ·obtain⟨x,a,ex⟩:=xAt h ht;obtain⟨y,b,ey⟩:=xAt h hu;have hk':k+1<(i3 P T).toNat:=hk;obtain⟨v,b1,b2,b3,b4,b5⟩:=a.up k QX;obtain⟨v',c1,c2,c3,c4,c5⟩:=b.up k QX;have e':(plX P (T.getD t 0) k).toNat=(plX P (T.getD u 0) k).toNat:=e;rw[ex,ey,b3,c3,Int.toNat_natCast,Int.toNat_natCast]at e';subst e';have f:(upL P x).drop k=(upL P y).drop k:=by rw[b5,c5]
  have f2:=congrArg (λl=>l[1]?) f;simp only[List.getElem?_drop]at f2;have f3:plX P x (k+1)=plX P y (k+1):=by unfold plX;rw[List.getD_eq_getElem?_getD,List.getD_eq_getElem?_getD,f2]
  constructor;·show(plX P (T.getD t 0) (k+1)).toNat=(plX P (T.getD u 0) (k+1)).toNat;rw[ex,ey,f3]
  ·show(fy (chL P (plX P (T.getD t 0) (k+1))) (plX P (T.getD t 0) k)).toNat=(fy (chL P (plX P (T.getD u 0) (k+1))) (plX P (T.getD u 0) k)).toNat;rw[ex,ey,f3,b3,c3]
 ·obtain⟨x,a,ex⟩:=xAt h ht;obtain⟨y,b,ey⟩:=xAt h hu;obtain⟨v,w,j,b1,b2,b3,b4,b5,b6⟩:=a.above h hk;obtain⟨v',w',j',c1,c2,c3,c4,c5,c6⟩:=b.above h hk;have e':(plX P (T.getD t 0) (k+1)).toNat=(plX P (T.getD u 0) (k+1)).toNat:=e;have e2':(slX P T t (T.getD t 0) (k+1)).toNat=(slX P T u (T.getD u 0) (k+1)).toNat:=e2;rw[ex,ey,b2,c2,Int.toNat_natCast,Int.toNat_natCast]at e';rw[ex,ey,b5,c5,Int.toNat_natCast,Int.toNat_natCast]at e2';subst e';subst e2';rw[b6]at c6;show(plX P (T.getD t 0) k).toNat=(plX P (T.getD u 0) k).toNat;rw[ex,ey,b1,c1];injection c6 with c6;omega
 ·obtain⟨x,a,ex⟩:=xAt h ht;obtain⟨y,b,ey⟩:=xAt h hu;have r:∀{i:Nat} {z:Int},XAt P T i z->plX P z ((i3 P T).toNat-1)=0:=λ{i z} c=>by have q:=i7 c.leaf;obtain⟨_,h2⟩:=pQ (aR h).2.1 q.1 q.2.1;have hl:=c.len;rw[(oU (aR h).2.1 q.1 q.2.1).1]at hl;rw[hl]at h2;unfold plX;rw[ba h2]
  show(plX P (T.getD t 0) ((i3 P T).toNat-1)).toNat=(plX P (T.getD u 0) ((i3 P T).toNat-1)).toNat;rw[ex,ey,r a,r b]
 ·obtain⟨x,a,ex⟩:=xAt h ht;obtain⟨y,b,ey⟩:=xAt h hu;have z:∀{i:Nat} {z:Int},XAt P T i z->plX P z 0=z/\0<=z:=λ{i z} c=>by have q:=i7 c.leaf;obtain⟨n,rfl⟩:=Int.eq_ofNat_of_zero_le q.1;obtain⟨p,hp⟩:=aj (show n<P.length by omega);exact⟨by unfold plX;rw[gc (aR h).2.1 hp];rfl,q.1⟩
  have e':(plX P (T.getD t 0) 0).toNat=(plX P (T.getD u 0) 0).toNat:=e;have e2':(slX P T t (T.getD t 0) 0).toNat=(slX P T u (T.getD u 0) 0).toNat:=e2;rw[ex,ey,(z a).1,(z b).1]at e';have hxy:x=y:=by have:=(z a).2;have:=(z b).2;omega
  subst hxy;rw[ex,ey,slot0 t ht _ ex,slot0 u hu _ ey,Int.toNat_natCast,Int.toNat_natCast]at e2';rcases Nat.lt_trichotomy t u with hlt|he|hlt
  ·have:=nw a.at_ hlt;omega
  ·exact he
  ·have:=nw b.at_ hlt;omega
theorem wC (h:a5 P T=0):(cf P T).D<=5:=by have hml:=bh (aR h).1;obtain⟨x,a,ex⟩:=xAt h (show 0<T.length by omega);have h3:=(aR h).2.2.1;unfold ke at h3;rw[List.all_eq_true]at h3;have h4:=h3 x (fz.2 a.leaf);simp only[decide_eq_true_eq]at h4;have b:=i7 a.leaf;have:=a.len;rw[(oU (aR h).2.1 b.1 b.2.1).1]at this;show(i3 P T).toNat<=5;omega
end
end
section
open Go.RowKit
structure Rg where
 ar:Ar
 S:List Sp
def lY (r:Rg)(t i:Int):Rg×Bool:=
 if okI r.S i/\(getS r.S i).pc≠0/\(getS r.S i).pc≠10 then
  (⟨(cQ r.ar t (i+1) (getS r.S i)).1,r.S.set i.toNat (cQ r.ar t (i+1) (getS r.S i)).2⟩,decide ((cQ r.ar t (i+1) (getS r.S i)).2.pc=0\/(cQ r.ar t (i+1) (getS r.S i)).2.pc=10))
 else(r,false)
def cY (r:Rg)(i from_ to_:Int):Rg×Bool:=
 if okI r.S i/\(getS r.S i).pc=from_ then(⟨r.ar,r.S.set i.toNat {getS r.S i with pc:=to_}⟩,true)else(r,false)
def gU (r:Rg)(i to_ v:Int):Rg×Bool:=
 if okI r.S i/\(getS r.S i).pc=10 then(⟨r.ar,r.S.set i.toNat {getS r.S i with pc:=to_,c:=v}⟩,true)else(r,false)
structure cI (w:World)(l a g q:Nat)(t:Int)(r:Rg):Prop where
 ar:aA w a g r.ar
 lk:Blk w l 319 #[↑a,.int .i64 t,.slice (some ⟨q,0,none⟩) r.S.length r.S.length]
 sp:dq w q r.S
 la:l≠a
 lg:l≠g
 lq:l≠q
 qa:q≠a
 qg:q≠g
 len:r.S.length<=32
theorem cI.turns{w w':World}{l a g q:Nat}{t:Int}{r:Rg}{T:List Nat}(h:cI w l a g q t r)(k:aa T w w')(h1:l∉T)(h2:a∉T)(h3:g∉T)(h4:q∉T):cI w' l a g q t r:=
 ⟨h.ar.turns k h2 h3,k.blk h.lk h1,h.sp.turns k h4,h.la,h.lg,h.lq,h.qa,h.qg,h.len⟩
theorem cI.below{w w':World}{l a g q:Nat}{t:Int}{r:Rg}(h:cI w l a g q t r)(k:Below w.heap.size w w'):cI w' l a g q t r:=
 h.turns (T:=[]) (aa.of_below k) QY QY QY QY
theorem iR {w:World} {l a g q:Nat} {t:Int} {r:Rg} (h:cI w l a g q t r):
    Calls Tryz.prog 263 #[↑l] w λe w'=>e= .returned (.int .i64 r.S.length)/\w=w':=by have c2:w.cell? ⟨l,2,none⟩=some (.slice (some ⟨q,0,none⟩) r.S.length r.S.length):=h.lk.cell 2;clear h;go_enter Tryz.func263,Tryz.ntmps263;go_wp2;go_ret;exact⟨rfl,rfl⟩
theorem oz {w:World} {l a g q:Nat} {t:Int} {r:Rg} (h:cI w l a g q t r) (i:Int):
    Calls Tryz.prog 257 #[↑l,.int .i64 i] w λe w'=>e= .returned (aE (getS r.S i))/\Below w.heap.size w w':=by
  have HN:=h.len;by_cases hi:okI r.S i;· have hp:=dE hi;obtain⟨p,hpp⟩:∃p,p=getS r.S i:=⟨_,rfl⟩;rw[<-hpp]at hp ⊢;have c2:w.cell? ⟨l,2,none⟩=some (.slice (some ⟨q,0,none⟩) r.S.length r.S.length):=h.lk.cell 2;have a0:=h.sp.cell hp 0 _ rfl;have a1:=h.sp.cell hp 1 _ rfl;have a2:=h.sp.cell hp 2 _ rfl;have a3:=h.sp.cell hp 3 _ rfl;simp only[Nat.add_zero]at a0;obtain⟨h0,h1⟩:=hi;obtain⟨n,rfl⟩:=Int.eq_ofNat_of_zero_le h0;simp only[Int.toNat_natCast]at a0 a1 a2 a3;have hs1:=h.lk.lt;have hs2:=h.sp.lt;have t2:¬(n:Int)<0:=(by omega);have t3:¬((r.S.length:Nat):Int)<=(n:Int):=(by omega);have t4:n<r.S.length:=(by omega);have H:Kq (cI (w.alloc (.cells #[.int .i64 0,.int .i64 0,.int .i64 0,.int .i64 0] 113)) l a g q t r):=qh (h.below ((Below.refl _ _).alloc (Nat.le_refl _) _));clear h hp hpp h0 h1;go_enter Tryz.func257,Tryz.ntmps257;go_wp2_with (go_at_call 263;refine(iR H.o).mono ?_;rintro e w' ⟨rfl,rfl⟩);exact bodyPost_ret (results_cell_row Q5 _ _ w.heap.size 113 _ (0,0) _ Q5 (heap_alloc_new w _) Tryz.underlying113 rfl Q0) rfl ⟨rfl,(Below.refl _ _).alloc (Nat.le_refl _) _⟩
  · have H:Kq (cI (w.alloc (.cells #[.int .i64 0,.int .i64 0,.int .i64 0,.int .i64 0] 113)) l a g q t r):=qh (h.below ((Below.refl _ _).alloc (Nat.le_refl _) _));rw[du hi];unfold okI at hi;clear h;by_cases h0:i<0;· go_enter Tryz.func257,Tryz.ntmps257;go_wp2;exact bodyPost_ret (results_cell_row Q5 _ _ w.heap.size 113 _ (0,0) _ Q5 (heap_alloc_new w _) Tryz.underlying113 rfl Q0) rfl ⟨rfl,(Below.refl _ _).alloc (Nat.le_refl _) _⟩
    · have t3:((r.S.length:Nat):Int)<=i:=(by omega);clear hi;go_enter Tryz.func257,Tryz.ntmps257;go_wp2_with (go_at_call 263;refine(iR H.o).mono ?_;rintro e w' ⟨rfl,rfl⟩);exact bodyPost_ret (results_cell_row Q5 _ _ w.heap.size 113 _ (0,0) _ Q5 (heap_alloc_new w _) Tryz.underlying113 rfl Q0) rfl ⟨rfl,(Below.refl _ _).alloc (Nat.le_refl _) _⟩
def mN (w:World)(l a g q:Nat)(t:Int)(x:Rg×Bool)(e:Ending)(w':World):Prop:=e= .returned (.bool x.2)/\cI w' l a g q t x.1/\aa [q] w w'
theorem cI.spot{w w':World}{l a g q:Nat}{t:Int}{r:Rg}(h:cI w l a g q t r){S':List Sp}(hs:dq w' q S')(hl:S'.length=r.S.length)(k:aa [q] w w'):cI w' l a g q t ⟨r.ar,S'⟩:=
 ⟨h.ar.turns k (by simpa using λe=>h.qa e.symm) (by simpa using λe=>h.qg e.symm),by
  have:=k.blk h.lk (by simpa using h.lq)
  show Blk w' l _ #[↑a,.int .i64 t,.slice (some ⟨q,0,none⟩) S'.length S'.length]
  rw[hl];exact this,hs,h.la,h.lg,h.lq,h.qa,h.qg,by show S'.length<=32;rw[hl];exact h.len⟩
theorem pw {w:World} {l a g q:Nat} {t:Int} {r:Rg} (h:cI w l a g q t r) (i from_ to_:Int):
    Calls Tryz.prog 262 #[↑l,.int .i64 i,.int .i64 from_,.int .i64 to_] w (mN w l a g q t (cY r i from_ to_)):=by
  have H:=qh h;have hlen:=h.len;by_cases hi:okI r.S i
  · have hp:=dE hi;obtain⟨p,hpp⟩:∃p,p=getS r.S i:=⟨_,rfl⟩;rw[<-hpp]at hp;have c2:w.cell? ⟨l,2,none⟩=some (.slice (some ⟨q,0,none⟩) r.S.length r.S.length):=h.lk.cell 2;have a0:=h.sp.cell hp 0 _ rfl;have f0:=h.sp.free (i.toNat*4);simp only[Nat.add_zero]at a0;obtain⟨h0,h1⟩:=id hi;obtain⟨n,rfl⟩:=Int.eq_ofNat_of_zero_le h0;simp only[Int.toNat_natCast]at a0 f0 hp;have t2:¬(n:Int)<0:=(by omega);have t3:¬((r.S.length:Nat):Int)<=(n:Int):=(by omega);have t4:n<r.S.length:=(by omega);have HP:=qh (And.intro hi (And.intro hpp hp));clear h hp hpp h0 h1 hi;cases hc:(p.pc !=from_)
    · have hb:Kq (cY r n from_ to_=(⟨r.ar,r.S.set n {p with pc:=to_}⟩,true)):=qh (by
        unfold cY;have e:p.pc=from_:=by simpa using hc
        rw[<-HP.o.2.1,if_pos ⟨HP.o.1,e⟩];simp)
      go_enter Tryz.func262,Tryz.ntmps262;go_wp2_with (go_at_call 263;refine(iR H.o).mono ?_;rintro e w' ⟨rfl,rfl⟩);go_ret;rw[hb.o];have ht:aa [q] w (w.setCell ⟨q,n*4,none⟩ (.int .i64 to_)):=(aa.refl _ _).setCell (.inl QY) _;exact⟨rfl,H.o.spot (H.o.sp.put HP.o.2.2 (j:=0) QZ rfl) QY ht,ht⟩
    · have hb:Kq (cY r n from_ to_=(r,false)):=qh (by
        unfold cY;have e:¬p.pc=from_:=by simpa using hc
        rw[<-HP.o.2.1,if_neg (λh=>e h.2)])
      go_enter Tryz.func262,Tryz.ntmps262;go_wp2_with (go_at_call 263;refine(iR H.o).mono ?_;rintro e w' ⟨rfl,rfl⟩);go_ret;rw[hb.o];exact⟨rfl,H.o,aa.refl _ _⟩
  · have hb:Kq (cY r i from_ to_=(r,false)):=qh (by
      unfold cY
      rw[if_neg (λh=>hi h.1)])
    unfold okI at hi;clear h;by_cases h0:i<0;· go_enter Tryz.func262,Tryz.ntmps262;go_wp2;go_ret;rw[hb.o];exact⟨rfl,H.o,aa.refl _ _⟩
    · have t3:((r.S.length:Nat):Int)<=i:=(by omega);clear hi;go_enter Tryz.func262,Tryz.ntmps262;go_wp2_with (go_at_call 263;refine(iR H.o).mono ?_;rintro e w' ⟨rfl,rfl⟩);go_ret;rw[hb.o];exact⟨rfl,H.o,aa.refl _ _⟩
theorem BT {w:World} {l a g q:Nat} {t:Int} {r:Rg} (h:cI w l a g q t r) (i:Int):
    Calls Tryz.prog 256 #[↑l,.int .i64 i] w (mN w l a g q t (cY r i 0 1)):=by go_enter Tryz.func256,Tryz.ntmps256;have H:=qh h;clear h;go_wp2_with fail;refine(pw H.o i 0 1).mono ?_;rintro en w1 ⟨rfl,h1,t1⟩;have H1:=qh (And.intro h1 t1);clear h1 t1;obtain⟨b,hb⟩:∃b,b=(cY r i 0 1).2:=⟨_,rfl⟩;rw[<-hb];have HB:=qh hb;clear hb;go_wp2;go_ret;exact⟨by rw[HB.o];rfl,H1.o.1,H1.o.2⟩
theorem tD{r:Rg}{i f u:Int}(h:(cY r i f u).2=true):okI r.S i/\(getS r.S i).pc=f/\(cY r i f u).1=⟨r.ar,r.S.set i.toNat {getS r.S i with pc:=u}⟩:=by
 unfold cY at *;split at h;·rename_i hc;rw[if_pos hc];exact⟨hc.1,hc.2,rfl⟩
 ·cases h
theorem ry{r:Rg}{i f u:Int}(h:(cY r i f u).2=false):¬(okI r.S i/\(getS r.S i).pc=f)/\(cY r i f u).1=r:=by
 unfold cY at *;split at h;·cases h
 ·rename_i hc;rw[if_neg hc];exact⟨hc,rfl⟩
theorem sZ {w:World} {l a g q:Nat} {t:Int} {r:Rg} (h:cI w l a g q t r) (i to_ v:Int):
    Calls Tryz.prog 268 #[↑l,.int .i64 i,.int .i64 to_,.int .i64 v] w (mN w l a g q t (gU r i to_ v)):=by
  have H:=qh h;clear h;go_enter Tryz.func268,Tryz.ntmps268;go_wp2_with fail;refine(pw H.o i 10 to_).mono ?_;rintro en w1 ⟨rfl,h1,t1⟩;cases hb:(cY r i 10 to_).2;· obtain⟨hc,he⟩:=ry hb;rw[he]at h1;have HW:Kq (gU r i to_ v=(r,false)):=qh (by unfold gU;rw[if_neg hc]);have H1:=qh (And.intro h1 t1);clear h1 t1 hb hc he;go_wp2;go_ret;rw[HW.o];exact⟨rfl,H1.o.1,H1.o.2⟩
  · obtain⟨hi,hc,he⟩:=tD hb;rw[he]at h1;have hp0:=dE hi;have hlen:=h1.len;simp only[List.length_set]at hlen;obtain⟨h0,h9⟩:=id hi;obtain⟨n,rfl⟩:=Int.eq_ofNat_of_zero_le h0;simp only[Int.toNat_natCast]at h1 hp0;have hp:(r.S.set n {getS r.S n with pc:=to_})[n]? =some {getS r.S n with pc:=to_}:=(by have:n<r.S.length:=(by omega);simp[this]);have c2:w1.cell? ⟨l,2,none⟩=some (.slice (some ⟨q,0,none⟩) r.S.length r.S.length):=(by have:=h1.lk.cell 2;simpa using this);have a3:=h1.sp.cell hp 3 _ rfl;have f3:=h1.sp.free (n*4+3);have t4:n<r.S.length:=(by omega);have t5:(n:Int)<r.S.length:=(by omega);have HW:Kq (gU r n to_ v=(⟨r.ar,r.S.set n {getS r.S n with pc:=to_,c:=v}⟩,true)):=qh (by unfold gU;rw[if_pos ⟨hi,hc⟩];simp);have H1:=qh (And.intro h1 (And.intro t1 hp));clear h1 t1 hb hc he hp hi hp0 h0 h9;go_wp2;go_ret;rw[HW.o];have ht:aa [q] w1 (w1.setCell ⟨q,n*4+3,none⟩ (.int .i64 v)):=(aa.refl _ _).setCell (.inl QY) _;refine⟨rfl,?_,H1.o.2.1.trans ht⟩;have h2:=H1.o.1.spot (H1.o.1.sp.put H1.o.2.2 (j:=3) (u:= .int .i64 v) (p':={getS r.S n with pc:=to_,c:=v}) QZ rfl) QY ht;simpa using h2
theorem xF {w:World} {l a g q:Nat} {t:Int} {r:Rg} (h:cI w l a g q t r) (i v:Int):
    Calls Tryz.prog 264 #[↑l,.int .i64 i,.int .i64 v] w (mN w l a g q t (gU r i 11 v)):=by have H:=qh h;clear h;go_enter Tryz.func264,Tryz.ntmps264;go_wp2_with fail;refine(sZ H.o i 11 v).mono ?_;rintro en w1 ⟨rfl,h1,t1⟩;have H1:=qh (And.intro h1 t1);clear h1 t1;obtain⟨b,hb⟩:∃b,b=(gU r i 11 v).2:=⟨_,rfl⟩;rw[<-hb];have HB:=qh hb;clear hb;go_wp2;go_ret;exact⟨by rw[HB.o];rfl,H1.o.1,H1.o.2⟩
theorem Ba {w:World} {l a g q:Nat} {t:Int} {r:Rg} (h:cI w l a g q t r) (i v:Int):
    Calls Tryz.prog 265 #[↑l,.int .i64 i,.int .i64 v] w (mN w l a g q t (gU r i 15 v)):=by have H:=qh h;clear h;go_enter Tryz.func265,Tryz.ntmps265;go_wp2_with fail;refine(sZ H.o i 15 v).mono ?_;rintro en w1 ⟨rfl,h1,t1⟩;have H1:=qh (And.intro h1 t1);clear h1 t1;obtain⟨b,hb⟩:∃b,b=(gU r i 15 v).2:=⟨_,rfl⟩;rw[<-hb];have HB:=qh hb;clear hb;go_wp2;go_ret;exact⟨by rw[HB.o];rfl,H1.o.1,H1.o.2⟩
theorem jx {w:World} {l a g q:Nat} {t:Int} {r:Rg} (h:cI w l a g q t r) (x:Int):
    Calls Tryz.prog 269 #[↑l,.int .i64 x] w λe w'=>e= .returned (.int .i64 (nxA t x))/\w=w':=by have c1:w.cell? ⟨l,1,none⟩=some (.int .i64 t):=h.lk.cell 1;clear h;go_enter Tryz.func269,Tryz.ntmps269;go_wp2;go_ret;exact⟨rfl,rfl⟩
theorem jF {w:World} {l a g q:Nat} {t:Int} {r:Rg} (h:cI w l a g q t r) (x:Int):
    Calls Tryz.prog 270 #[↑l,.int .i64 x] w λe w'=>e= .returned (.int .i64 (stA t x))/\w=w':=by have c1:w.cell? ⟨l,1,none⟩=some (.int .i64 t):=h.lk.cell 1;clear h;go_enter Tryz.func270,Tryz.ntmps270;go_wp2;go_ret;exact⟨rfl,rfl⟩
end
section
open Go.RowKit
def yO (w:World)(l a g q:Nat)(t:Int)(n:Nat)(r:Rg)(p:Sp)(x:Ar×Sp)(e:Ending)(w':World):Prop:=
 e= .returned (.int .i64 x.2.pc)/\cI w' l a g q t ⟨x.1,r.S.set n {x.2 with pc:=p.pc}⟩/\aa [a,g,q] w w'
theorem fF{P:Program}{f:FuncId}{args:Array Value}{w:World}{v:Value}(h:Calls P f args w λe w'=>e= .returned v/\w=w'):Calls P f args w λe w'=>e= .returned v/\w'=w:=
 h.mono λ_ _ ⟨a,b⟩=>⟨a,b.symm⟩
theorem cI.ar_{w w':World}{l a g q:Nat}{t:Int}{r:Rg}(h:cI w l a g q t r){s':Ar}(hs:aA w' a g s')(k:aa [a,g] w w'):cI w' l a g q t ⟨s',r.S⟩:=
 ⟨hs,k.blk h.lk (by simp[h.la,h.lg]),h.sp.turns k (by simp[h.qa,h.qg]),h.la,h.lg,h.lq,h.qa,h.qg,h.len⟩
theorem cI.drew{w:World}{l a g q:Nat}{t:Int}{r:Rg}(h:cI w l a g q t r):cI w.drew l a g q t r:=h.turns (T:=[]) ((aa.refl _ _).drew) QY QY QY QY
theorem sP{S:List Sp}{n:Nat}{p:Sp}(h:S[n]? =some p):S.set n p=S:=by obtain⟨hk,rfl⟩:=List.getElem?_eq_some_iff.1 h;simp
theorem yv {w:World} {a g:Nat} {s:Ar} (h:aA w a g s) (x v r:Int) (hr:r=ldW s.W x) (ho:s.ops+1<=1000000000000):
    Calls Tryz.prog 271 #[↑a,.int .i64 x,.int .i64 v] w (eU w a g (bY s x v) (.int .i64 r)):=by rw[hr];exact ff h x v ho
theorem jX {w:World} {a g:Nat} {s:Ar} (h:aA w a g s) (x r:Int) (hr:r=ldW s.W x) (ho:s.ops+1<=1000000000000):
    Calls Tryz.prog 173 #[↑a,.int .i64 x] w (eU w a g (ae s x) (.int .i64 r)):=by rw[hr];exact aC h x ho
theorem zf {w:World} {a g:Nat} {s:Ar} (h:aA w a g s) (x old v:Int) (b:Bool) (hb:cl s x old=b) (ho:s.ops+1<=1000000000000):
    Calls Tryz.prog 272 #[↑a,.int .i64 x,.int .i64 old,.int .i64 v] w (eU w a g (dO s x old v) (.bool b)):=by rw[<-hb];exact i1 h x old v ho
theorem cI.put1{w:World}{l a g q:Nat}{t:Int}{r:Rg}(h:cI w l a g q t r){n j:Nat}{p p':Sp}{u:Value}(hp:r.S[n]? =some p)(hj:j<4)(he:(a9 p).set j u=a9 p'):cI (w.setCell ⟨q,n*4+j,none⟩ u) l a g q t ⟨r.ar,r.S.set n p'⟩/\aa [q] w (w.setCell ⟨q,n*4+j,none⟩ u):=by have ht:aa [q] w (w.setCell ⟨q,n*4+j,none⟩ u):=(aa.refl _ _).setCell (.inl QY) _;exact⟨h.spot (h.sp.put hp hj he) QY ht,ht⟩
theorem rgA {Q:Prop} (h:Q:=by
    go_wp2
    go_ret
    rw[HE.o]
    refine⟨rfl,?_,H1.o.2.mono QY⟩
    dsimp only
    rw[sP HP.o]
    exact H1.o.1):Q:=h
theorem rgB {Q:Prop} (h:Q:=by
    go_wp2
    go_ret
    rw[HE.o]
    first
      | rw[if_pos HZ.o]
      | rw[if_neg HZ.o]
      | skip
    refine⟨rfl,?_,(H1.o.2.mono QY).trans (HG.o.2.mono QY)⟩
    first
      | exact HG.o.1
      | simpa using HG.o.1):Q:=h
theorem rgS {Q:Prop} (h:Q:=by
    simp only[List.take_succ_cons,List.take_zero,List.drop_succ_cons,List.drop_zero]
    change wpStill _ _ (World.drew _) _ _ _
    repeat still_step
    try still_call HC.o
    repeat still_step
    refine wpStill_nil ?_
    change wpList _ _ _ _ _ (World.drew w)
    go_wp2_with fail
    refine HO.o.mono ?_
    rintro en w1 ⟨rfl,h1,t1⟩
    have H1:=qh (And.intro (HD.o.ar_ h1 t1) (aa.trans ((aa.refl _ _).drew) t1))
    first
      | exact rgA
      | (have HG1:=qh (HJ.o _ H1.o.1)
         have HG2:=HG1.o.1.put1 (n:=n) (j:=2) (u:= .int .i64 1) (p:=⟨6,1,pb,pz⟩) (p':=⟨6,1,1,pz⟩) Sl QZ rfl
         have HG:=qh (And.intro HG2.1 (HG1.o.2.trans HG2.2))
         have hsp:=H1.o.1.sp
         have d1:=hsp.cell HP.o 1 _ rfl
         have d2:=hsp.cell HP.o 2 _ rfl
         have f1:=hsp.free (n*4+1)
         have f2:=hsp.free (n*4+2)
         clear h1 t1 hsp HG2
         exact rgB)):Q:=h
theorem rgL {Q:Prop} (h:Q:=by
    go_region_held3 (λW=>W.cell? l=some ↑a/\W.cell? ⟨l,1,none⟩=some (.int .i64 t))
      (first|exact⟨c0,c1⟩|exact⟨k0,k1⟩|exact hk.o _ _)
      (first
        | (go_at_call 271;go_loud (refine HO.o.mono ?_);rintro en w1 ⟨rfl,h1,t1⟩;have H1:=qh (And.intro (HD.o.ar_ h1 t1) (aa.trans ((aa.refl _ _).drew) t1));have k0:w1.cell? l=some ↑a:=H1.o.1.lk.cell 0;have k1:w1.cell? ⟨l,1,none⟩=some (.int .i64 t):=H1.o.1.lk.cell 1;have hk:Kq (∀(o:Nat) (u:Value),(w1.setCell ⟨q,o,none⟩ u).cell? l=some ↑a/\(w1.setCell ⟨q,o,none⟩ u).cell? ⟨l,1,none⟩=some (.int .i64 t)):=qh λo u=>⟨(H1.o.1.lk.far (p:=⟨q,o,none⟩) H1.o.1.lq u).cell 0,(H1.o.1.lk.far (p:=⟨q,o,none⟩) H1.o.1.lq u).cell 1⟩;have d0:=H1.o.1.sp.cell HP.o 0 _ rfl;simp only[Nat.add_zero]at d0;have d1:=H1.o.1.sp.cell HP.o 1 _ rfl;have d2:=H1.o.1.sp.cell HP.o 2 _ rfl;have f1:=H1.o.1.sp.free (n*4+1);have f2:=H1.o.1.sp.free (n*4+2))
        | (go_at_call 173;go_loud (refine HO.o.mono ?_);rintro en w1 ⟨rfl,h1,t1⟩;have H1:=qh (And.intro (HD.o.ar_ h1 t1) (aa.trans ((aa.refl _ _).drew) t1));have k0:w1.cell? l=some ↑a:=H1.o.1.lk.cell 0;have k1:w1.cell? ⟨l,1,none⟩=some (.int .i64 t):=H1.o.1.lk.cell 1;have hk:Kq (∀(o:Nat) (u:Value),(w1.setCell ⟨q,o,none⟩ u).cell? l=some ↑a/\(w1.setCell ⟨q,o,none⟩ u).cell? ⟨l,1,none⟩=some (.int .i64 t)):=qh λo u=>⟨(H1.o.1.lk.far (p:=⟨q,o,none⟩) H1.o.1.lq u).cell 0,(H1.o.1.lk.far (p:=⟨q,o,none⟩) H1.o.1.lq u).cell 1⟩;have d0:=H1.o.1.sp.cell HP.o 0 _ rfl;simp only[Nat.add_zero]at d0;have d1:=H1.o.1.sp.cell HP.o 1 _ rfl;have d2:=H1.o.1.sp.cell HP.o 2 _ rfl;have f1:=H1.o.1.sp.free (n*4+1);have f2:=H1.o.1.sp.free (n*4+2))
        | (go_at_call 270;go_loud (refine HC.o.mono ?_);rintro en w1 ⟨rfl,rfl⟩)
        | (go_at_call 269;go_loud (refine HC.o.mono ?_);rintro en w1 ⟨rfl,rfl⟩))
    all_goals clear h1 t1
    have HG:=qh (HJ.o _ H1.o.1)
    cases hz:(v==0)
    · have HZ:Kq (¬v=0):=qh Rt
      exact rgB
    · have HZ:Kq (v=0):=qh Rt
      exact rgB):Q:=h
theorem If {Q:Prop} (h:Q:=by
    go_region_held3 (λW=>W.cell? l=some ↑a/\W.cell? ⟨l,1,none⟩=some (.int .i64 t))
      (first|exact⟨c0,c1⟩|exact⟨k0,k1⟩|exact hk.o _ _)
      (first
        | (go_at_call 173;go_loud (refine HO.o.mono ?_);rintro en w1 ⟨rfl,h1,t1⟩;have H1:=qh (And.intro (HD.o.ar_ h1 t1) (aa.trans ((aa.refl _ _).drew) t1));have k0:w1.cell? l=some ↑a:=H1.o.1.lk.cell 0;have k1:w1.cell? ⟨l,1,none⟩=some (.int .i64 t):=H1.o.1.lk.cell 1;have hk:Kq (∀(o:Nat) (u:Value),(w1.setCell ⟨q,o,none⟩ u).cell? l=some ↑a/\(w1.setCell ⟨q,o,none⟩ u).cell? ⟨l,1,none⟩=some (.int .i64 t)):=qh λo u=>⟨(H1.o.1.lk.far (p:=⟨q,o,none⟩) H1.o.1.lq u).cell 0,(H1.o.1.lk.far (p:=⟨q,o,none⟩) H1.o.1.lq u).cell 1⟩;have d0:=H1.o.1.sp.cell HP.o 0 _ rfl;simp only[Nat.add_zero]at d0;have d1:=H1.o.1.sp.cell HP.o 1 _ rfl;have d2:=H1.o.1.sp.cell HP.o 2 _ rfl;have f1:=H1.o.1.sp.free (n*4+1);have f2:=H1.o.1.sp.free (n*4+2))
        | (go_at_call 270;go_loud (refine HC.o.mono ?_);rintro en w1 ⟨rfl,rfl⟩))
    all_goals clear h1 t1
    have HG1:=qh (HJ.o _ H1.o.1)
    by_cases hz:0<v
    · have HZ:=qh hz
      have HG2:=HG1.o.1.put1 (n:=n) (j:=2) (u:= .int .i64 0) (p:=⟨5,v,pb,pz⟩) (p':=⟨5,v,0,pz⟩) Sl QZ rfl
      have HG:=qh (And.intro HG2.1 (HG1.o.2.trans HG2.2))
      clear HG2
      rw[if_pos hz]at HE
      exact rgB
    · by_cases hz2:v<0
      · have HG:=HG1
        rw[if_neg hz,if_pos hz2]at HE
        exact rgB
      · have HG:=HG1
        rw[if_neg hz,if_neg hz2]at HE
        exact rgB):Q:=h
section
variable{w:World}{l a g q:Nat}{t:Int}{r:Rg}
theorem Aj (h:cI w l a g q t r) (n:Nat) (p:Sp) (hp:r.S[n]? =some p) (x:Int) (ho:r.ar.ops+1<=1000000000000) (h1:1<=p.pc) (h6:p.pc<=6):
    Calls Tryz.prog 266 #[↑l,.pointer (some ⟨q,n*4,none⟩),.int .i64 x] w (yO w l a g q t n r p (iC r.ar t x p)):=by
  have c0:w.cell? l=some ↑a:=h.lk.cell 0;have c1:w.cell? ⟨l,1,none⟩=some (.int .i64 t):=h.lk.cell 1;have a0:=h.sp.cell hp 0 _ rfl;have a1:=h.sp.cell hp 1 _ rfl;have a2:=h.sp.cell hp 2 _ rfl;have a3:=h.sp.cell hp 3 _ rfl;simp only[Nat.add_zero]at a0;have hq:p.pc=1\/p.pc=2\/p.pc=3\/p.pc=4\/p.pc=5\/p.pc=6:=by omega
  have H:=qh h;have HD:=qh h.drew;have HP0:=qh hp;obtain⟨pc,pa,pb,pz⟩:=p;simp only at hq a0 a1 a2 a3;clear h hp h1 h6;rcases hq with rfl|rfl|rfl|rfl|rfl|rfl
  all_goals have HP:=qh HP0.o;clear HP0;go_enter Tryz.func266,Tryz.ntmps266;go_wp2
  · have HE:Kq (iC r.ar t x ⟨1,pa,pb,pz⟩=(ac r.ar (nxA t x) 0,⟨2,pa,pb,pz⟩)):=qh Q5;have HC:=qh (fF (jx HD.o x));have HO:=qh (am HD.o.ar (nxA t x) 0 ho);refine wp_region_still_tail 7 Q0 Q0 ?_;exact rgS
  · have HE:Kq (iC r.ar t x ⟨2,pa,pb,pz⟩=(ac r.ar (stA t x) 0,⟨3,pa,pb,pz⟩)):=qh Q5;have HC:=qh (fF (jF HD.o x));have HO:=qh (am HD.o.ar (stA t x) 0 ho);refine wp_region_still_tail 7 Q0 Q0 ?_;exact rgS
  · obtain⟨v,hv⟩:∃v,v=ldW r.ar.W t:=⟨_,rfl⟩;have HE:Kq (iC r.ar t x ⟨3,pa,pb,pz⟩=(bY r.ar t x,⟨if v=0 then 6 else 4,v,pb,pz⟩)):=qh (by rw[hv];rfl);have HO:=qh (yv HD.o.ar t x v hv ho);have HJ:=qh (λW (h:cI W l a g q t ⟨bY r.ar t x,r.S⟩)=>h.put1 HP.o (j:=1) (u:= .int .i64 v) (p':=⟨3,v,pb,pz⟩) QZ rfl);clear hv;exact rgL
  · have HE:Kq (iC r.ar t x ⟨4,pa,pb,pz⟩=(ac r.ar (nxA t pa) x,⟨5,pa,pb,pz⟩)):=qh Q5;have HC:=qh (fF (jx HD.o pa));have HO:=qh (am HD.o.ar (nxA t pa) x ho);refine wp_region_still_tail 11 Q0 Q0 ?_;exact rgS
  · obtain⟨v,hv⟩:∃v,v=ldW r.ar.W (stA t x):=⟨_,rfl⟩;have HE:Kq (iC r.ar t x ⟨5,pa,pb,pz⟩=(ae r.ar (stA t x),if 0<v then⟨10,v,0,pz⟩else if v<0 then⟨6,v,pb,pz⟩else⟨5,v,pb,pz⟩)):=qh (by rw[hv];rfl);have HC:=qh (jF HD.o x);have HO:=qh (jX HD.o.ar (stA t x) v hv ho);have HJ:=qh (λW (h:cI W l a g q t ⟨ae r.ar (stA t x),r.S⟩)=>h.put1 HP.o (j:=1) (u:= .int .i64 v) (p':=⟨5,v,pb,pz⟩) QZ rfl);clear hv;exact If
  · have HE:Kq (iC r.ar t x ⟨6,pa,pb,pz⟩=(ac r.ar (stA t x) 1,⟨10,1,1,pz⟩)):=qh Q5;have HC:=qh (fF (jF HD.o x));have HO:=qh (am HD.o.ar (stA t x) 1 ho);have HJ:=qh (λW (h:cI W l a g q t ⟨ac r.ar (stA t x) 1,r.S⟩)=>h.put1 HP.o (j:=1) (u:= .int .i64 1) (p':=⟨6,1,pb,pz⟩) QZ rfl);refine wp_region_still_tail 7 Q0 Q0 ?_;exact rgS
theorem C8 (h:cI w l a g q t r) (n:Nat) (p:Sp) (hp:r.S[n]? =some p) (x:Int) (ho:r.ar.ops+1<=1000000000000) (h1:11<=p.pc) (h6:p.pc<=16):
    Calls Tryz.prog 267 #[↑l,.pointer (some ⟨q,n*4,none⟩),.int .i64 x] w (yO w l a g q t n r p (eu r.ar t x p)):=by
  have c0:w.cell? l=some ↑a:=h.lk.cell 0;have c1:w.cell? ⟨l,1,none⟩=some (.int .i64 t):=h.lk.cell 1;have a0:=h.sp.cell hp 0 _ rfl;have a1:=h.sp.cell hp 1 _ rfl;have a2:=h.sp.cell hp 2 _ rfl;have a3:=h.sp.cell hp 3 _ rfl;simp only[Nat.add_zero]at a0;have hq:p.pc=11\/p.pc=12\/p.pc=13\/p.pc=14\/p.pc=15\/p.pc=16:=by omega
  have H:=qh h;have HD:=qh h.drew;have HP0:=qh hp;obtain⟨pc,pa,pb,pz⟩:=p;simp only at hq a0 a1 a2 a3;clear h hp h1 h6;rcases hq with rfl|rfl|rfl|rfl|rfl|rfl
  all_goals have HP:=qh HP0.o;clear HP0;go_enter Tryz.func267,Tryz.ntmps267;go_wp2
  · obtain⟨v,hv⟩:∃v,v=ldW r.ar.W (nxA t x):=⟨_,rfl⟩;have HE:Kq (eu r.ar t x ⟨11,pa,pb,pz⟩=(ae r.ar (nxA t x),⟨if v=0 then 12 else 14,v,pb,pz⟩)):=qh RY;have HC:=qh (jx HD.o x);have HO:=qh (jX HD.o.ar (nxA t x) v hv ho);have HJ:=qh (λW (h:cI W l a g q t ⟨ae r.ar (nxA t x),r.S⟩)=>h.put1 HP.o (j:=1) (u:= .int .i64 v) (p':=⟨11,v,pb,pz⟩) QZ rfl);clear hv;exact rgL
  · cases hb:cl r.ar t x;all_goals have HE:Kq (eu r.ar t x ⟨12,pa,pb,pz⟩=(dO r.ar t x 0,⟨if cl r.ar t x then 0 else 13,pa,pb,pz⟩)):=qh rfl;rw[hb]at HE;have HO:=qh (zf HD.o.ar t x 0 _ hb ho);clear hb;refine wp_region_still_tail 9 Q0 Q0 ?_;exact rgS
  · obtain⟨v,hv⟩:∃v,v=ldW r.ar.W (nxA t x):=⟨_,rfl⟩;have HE:Kq (eu r.ar t x ⟨13,pa,pb,pz⟩=(ae r.ar (nxA t x),⟨if v=0 then 13 else 14,v,pb,pz⟩)):=qh RY;have HC:=qh (jx HD.o x);have HO:=qh (jX HD.o.ar (nxA t x) v hv ho);have HJ:=qh (λW (h:cI W l a g q t ⟨ae r.ar (nxA t x),r.S⟩)=>h.put1 HP.o (j:=1) (u:= .int .i64 v) (p':=⟨13,v,pb,pz⟩) QZ rfl);clear hv;exact rgL
  · have HE:Kq (eu r.ar t x ⟨14,pa,pb,pz⟩=(ac r.ar (stA t pa) pz,⟨0,pa,pb,pz⟩)):=qh Q5;have HC:=qh (fF (jF HD.o pa));have HO:=qh (am HD.o.ar (stA t pa) pz ho);refine wp_region_still_tail 14 Q0 Q0 ?_;exact rgS
  · obtain⟨v,hv⟩:∃v,v=ldW r.ar.W (nxA t x):=⟨_,rfl⟩;have HE:Kq (eu r.ar t x ⟨15,pa,pb,pz⟩=(ae r.ar (nxA t x),⟨if v=0 then 10 else 16,pa,v,pz⟩)):=qh RY;have HC:=qh (jx HD.o x);have HO:=qh (jX HD.o.ar (nxA t x) v hv ho);have HJ:=qh (λW (h:cI W l a g q t ⟨ae r.ar (nxA t x),r.S⟩)=>h.put1 HP.o (j:=2) (u:= .int .i64 v) (p':=⟨15,pa,v,pz⟩) QZ rfl);clear hv;exact rgL
  · have HE:Kq (eu r.ar t x ⟨16,pa,pb,pz⟩=(ac r.ar (stA t pb) pz,⟨0,pa,pb,pz⟩)):=qh Q5;have HC:=qh (fF (jF HD.o pb));have HO:=qh (am HD.o.ar (stA t pb) pz ho);refine wp_region_still_tail 14 Q0 Q0 ?_;exact rgS
end
end
section
open Go.RowKit
def E5 (p:Sp):Prop:=(0<=p.pc/\p.pc<=6)\/(10<=p.pc/\p.pc<=16)
def Fv (w:World)(l a g q:Nat)(t:Int)(x:Rg×Bool)(e:Ending)(w':World):Prop:=e= .returned (.bool x.2)/\cI w' l a g q t x.1/\aa [a,g,q] w w'
theorem mN.rg{w:World}{l a g q:Nat}{t:Int}{x:Rg×Bool}{e:Ending}{w':World}(h:mN w l a g q t x e w'):Fv w l a g q t x e w':=⟨h.1,h.2.1,h.2.2.mono QY⟩
theorem Bu {w:World} {l a g q:Nat} {t:Int} {r:Rg} (h:cI w l a g q t r) (i:Int) (ho:r.ar.ops+1<=1000000000000) (hpc:∀p∈r.S,E5 p):
    Calls Tryz.prog 259 #[↑l,.int .i64 i] w (Fv w l a g q t (lY r t i)):=by
  have hfield:=aK;have H:=qh h;have hlen:=h.len;obtain⟨p,hp⟩:∃p,p=getS r.S i:=⟨_,rfl⟩;have HP:=qh hp;by_cases hc:okI r.S i/\p.pc≠0/\p.pc≠10
  · obtain⟨hi,hz,ht⟩:=hc;have hget:=dE hi;rw[<-hp]at hget;have hok:=hpc p (List.mem_of_getElem? hget);obtain⟨h0,h9⟩:=id hi;obtain⟨n,rfl⟩:=Int.eq_ofNat_of_zero_le h0;simp only[Int.toNat_natCast]at hget;have t0:(p.pc==0)=false:=(by simpa using hz);have t10:(p.pc==10)=false:=(by simpa using ht);have hn:n<r.S.length:=(by omega);have hn2:(n:Int)<r.S.length:=(by omega);have hx:(n:Int)+1<=33:=by omega
    have HS:Kq (lY r t n=(⟨(cQ r.ar t (n+1) p).1,r.S.set n (cQ r.ar t (n+1) p).2⟩,decide ((cQ r.ar t (n+1) p).2.pc=0\/(cQ r.ar t (n+1) p).2.pc=10))):=qh (by
      unfold lY
      rw[<-HP.o,if_pos ⟨hi,hz,ht⟩];rfl)
    have HG:=qh (And.intro hget hi);have HB:Kq ((1<=p.pc/\p.pc<=6)\/(11<=p.pc/\p.pc<=16)):=qh (by unfold E5 at hok;omega);clear h hp hz ht hget h0 h9 hi hpc hok;go_enter Tryz.func259,Tryz.ntmps259;go_wp2_with fail;refine(oz H.o n).mono ?_;rintro en w1 ⟨rfl,b1⟩;rw[<-HP.o];unfold aE;have h1:=H.o.below b1;have H1:=qh (And.intro h1 b1);have c2:w1.cell? ⟨l,2,none⟩=some (.slice (some ⟨q,0,none⟩) r.S.length r.S.length):=h1.lk.cell 2;clear h1 b1;by_cases h10:p.pc<10
    all_goals
      go_wp2_with fail;first| refine(Aj H1.o.1 n p HG.o.1 _ ho (by have:=HB.o;omega) (by have:=HB.o;omega)).mono ?_| refine(C8 H1.o.1 n p HG.o.1 _ ho (by have:=HB.o;omega) (by have:=HB.o;omega)).mono ?_
      rintro en w2 ⟨rfl,h2,t2⟩;obtain⟨y,hy⟩:∃y,y=cQ r.ar t (n+1) p:=⟨_,rfl⟩;have hyy:=hy;unfold cQ at hyy;first| rw[if_pos h10]at hyy| rw[if_neg QX]at hyy
      rw[<-hyy]at h2 ⊢;rw[<-hy]at HS;clear hy hyy;have hg2:(r.S.set n {y.2 with pc:=p.pc})[n]? =some {y.2 with pc:=p.pc}:=(by simp[hn]);have d0:=h2.sp.cell hg2 0 _ rfl;simp only[Nat.add_zero]at d0;have f0:=h2.sp.free (n*4);have hq:=h2.sp.lt;have h3:=h2.sp.put hg2 (j:=0) (u:= .int .i64 y.2.pc) (p':=y.2) QZ rfl;simp only[Nat.add_zero,List.set_set]at h3;have ht3:aa [q] w2 (w2.setCell ⟨q,n*4,none⟩ (.int .i64 y.2.pc)):=(aa.refl _ _).setCell (.inl QY) _;have h4:=h2.spot h3 QY ht3;have H2:=qh (And.intro h4 (((aa.of_below H1.o.2).trans t2).trans (ht3.mono QY)));clear h2 t2 hg2 h3 ht3 h4;cases z0:(y.2.pc==0)
      · cases z1:(y.2.pc==10);· have HD:Kq (decide (y.2.pc=0\/y.2.pc=10)=false):=qh RI;go_wp2;go_ret;rw[HS.o];exact⟨az HD.o.symm,H2.o.1,H2.o.2⟩
        · have HD:Kq (decide (y.2.pc=0\/y.2.pc=10)=true):=qh RJ;go_wp2;go_ret;rw[HS.o];exact⟨az HD.o.symm,H2.o.1,H2.o.2⟩
      · have HD:Kq (decide (y.2.pc=0\/y.2.pc=10)=true):=qh RK;go_wp2;go_ret;rw[HS.o];exact⟨az HD.o.symm,H2.o.1,H2.o.2⟩
  · have HS:Kq (lY r t i=(r,false)):=qh (by unfold lY;rw[<-hp,if_neg hc])
    have hz:p.pc=0\/p.pc=10:=by
      by_cases hi:okI r.S i
      · by_cases h0:p.pc=0;· exact .inl h0
        · by_cases h10:p.pc=10;· exact .inr h10
          · exact absurd ⟨hi,h0,h10⟩ hc
      · rw[hp,du hi];exact .inl rfl
    clear h hp hc hpc;go_enter Tryz.func259,Tryz.ntmps259;go_wp2_with fail;refine(oz H.o i).mono ?_;rintro en w1 ⟨rfl,b1⟩;rw[<-HP.o];unfold aE;have H1:=qh (And.intro (H.o.below b1) b1);clear b1;rcases hz with hz|hz
    · have t0:(p.pc==0)=true:=(by rw[hz];rfl);clear hz;go_wp2;go_ret;rw[HS.o];exact⟨rfl,H1.o.1,aa.of_below H1.o.2⟩
    · have t0:(p.pc==0)=false:=(by rw[hz];rfl);have t1:(p.pc==10)=true:=(by rw[hz];rfl);clear hz;go_wp2;go_ret;rw[HS.o];exact⟨rfl,H1.o.1,aa.of_below H1.o.2⟩
end
section
open Go.RowKit
theorem Tryz.infoSpR:(Tryz.prog.info? 113).map (λi=>(i.zero,i.size,i.bytes))=some (some (.agg #[.int .i64 0,.int .i64 0,.int .i64 0,.int .i64 0]),4,32):=by kernel_rfl
theorem kY (u:Value)(n:Nat):(madeCells #[u,u,u,u] n).toList=List.replicate n u:=by exact II
theorem oq (n:Nat):(List.replicate n Sp.zero).flatMap a9=List.replicate (n*4) (.int .i64 0):=by exact IJ
def fK (s:Ar)(n:Int):Int:=if n<1\/32<n then 1 else if (s.room:Int)-s.W.length<2*n+1 then 3 else 0
def pr (w:World)(a g:Nat)(s:Ar)(n:Int)(e:Ending)(w':World):Prop:=
 if fK s n=0 then ∃l q,e= .returned (.tuple #[.pointer (some ⟨l,0,none⟩),.int .i64 0])/\cI w' l a g q (s.W.length+1) ⟨{s with W:=s.W++List.replicate (2*n+1).toNat 0},List.replicate n.toNat Sp.zero⟩/\w.heap.size<=l/\w.heap.size<=q/\aa [a] w w'
 else e= .returned (.tuple #[.pointer none,.int .i64 (fK s n)])/\aA w' a g s/\aa [a] w w'
theorem xX {w:World} {a g:Nat} {s:Ar} (h:aA w a g s) (n:Int):
    Calls Tryz.prog 141 #[↑a,.int .i64 n] w (pr w a g s n):=by
  obtain⟨i0,hi,hz0,hz1,hz2⟩:=info_parts Tryz.infoSpR;have H:=qh h;have hle:=h.le;have hro:=h.room;clear h;by_cases h0:n<1\/32<n
  · have HE:Kq (fK s n=1):=qh (by unfold fK;rw[if_pos h0]);by_cases h1:n<1;· clear h0;go_enter Tryz.func141,Tryz.ntmps141;go_wp2;go_ret2;unfold pr;rw[HE.o,if_neg QZ];exact⟨rfl,H.o,aa.refl _ _⟩
    · have h2:32<n:=(by omega);clear h0;go_enter Tryz.func141,Tryz.ntmps141;go_wp2;go_ret2;unfold pr;rw[HE.o,if_neg QZ];exact⟨rfl,H.o,aa.refl _ _⟩
  · obtain⟨m,rfl⟩:=Int.eq_ofNat_of_zero_le (show 0<=n by omega);have h1:¬(m:Int)<1:=(by omega);have h2:¬32<(m:Int):=(by omega);have hm:m<=32:=(by omega);by_cases h3:(s.room:Int)-s.W.length<2*m+1;· have HE:Kq (fK s m=3):=qh (by unfold fK;rw[if_neg h0,if_pos h3]);have HT:Kq (dV s (2*m+1)=(s,(0:Int),(3:Int))):=qh (by unfold dV;rw[if_neg QX,if_pos h3]);clear h0 h3;go_enter Tryz.func141,Tryz.ntmps141;go_wp2_with fail;refine(gb H.o (2*m+1)).mono ?_;rintro en w1 ⟨rfl,k1,t1⟩;rw[HT.o]at k1 ⊢;have H1:=qh (And.intro k1 t1);clear k1 t1;go_wp2;go_ret2;unfold pr;rw[HE.o,if_neg QZ];exact⟨rfl,H1.o.1,H1.o.2⟩
    · have HE:Kq (fK s m=0):=qh (by unfold fK;rw[if_neg h0,if_neg h3]);have HT:Kq (dV s (2*m+1)=({s with W:=s.W++List.replicate (2*(m:Int)+1).toNat 0},(s.W.length:Int)+1,(0:Int))):=qh (by unfold dV;rw[if_neg QX,if_neg h3]);clear h0 h3;go_enter Tryz.func141,Tryz.ntmps141;go_wp2_with fail;refine(gb H.o (2*m+1)).mono ?_;rintro en w1 ⟨rfl,k1,t1⟩;rw[HT.o]at k1 ⊢;have H1:=qh (And.intro k1 t1);clear k1 t1;go_wp2_with (refine wpList_make_full _ rfl (.tmp 27) (.tmp 27) 237 rfl w1.heap.size 113 i0 (.agg #[.int .i64 0,.int .i64 0,.int .i64 0,.int .i64 0]) 4 Tryz.underlying237 hi hz0 hz1 .i64 .i64 m m m rfl rfl rfl rfl ?b2 ?b3 (Nat.le_refl _) ?_);case b2=>rw[hz2];omega
      case b3=>unfold maxLen;omega
      intro w2 hown hg;have hb:dq w2 w1.heap.size (List.replicate m Sp.zero):=(by unfold dq;rw[oq];have:=gu hown;have e:(madeCells #[Value.int .i64 0,.int .i64 0,.int .i64 0,.int .i64 0] (m*4)).toList=List.replicate (m*4) (.int .i64 0):=kY _ _;exact Ji);have t2:aa [] w1 w2:=aa.of_below ((Below.refl w1.heap.size w1).grown hg (Nat.le_refl _) (λj hj=>by cases hj));have hs2:=hb.lt;have H2:=qh (And.intro hb t2);clear hown hg hb t2;go_wp2;go_ret2;unfold pr;rw[HE.o,if_pos rfl];have hs1:=H1.o.2.size;have hsw:=H2.o.2.size;have hk:=(H1.o.1.turns H2.o.2 QY QY);have hka:=hk.blk.lt;have hkg:=hk.wds.lt;have ha1:=H1.o.1.blk.lt;have hg1:=H1.o.1.wds.lt;refine⟨w2.heap.size,w1.heap.size,rfl,⟨?_,?_,?_,?_,?_,?_,?_,?_,?_⟩,?_,?_,?_⟩;· exact hk.turns (S:=[]) ((aa.refl _ _).alloc _) QY QY
      · have:=Blk.new w2 319 #[↑a,.int .i64 (s.W.length+1),.slice (some ⟨w1.heap.size,0,none⟩) m m];simpa using this
      · simpa using H2.o.1.turns (T:=[]) ((aa.refl _ _).alloc _) QY
      all_goals (try simp only[List.length_replicate,Int.toNat_natCast])
      all_goals first
        | omega
        | exact(((H1.o.2.trans (H2.o.2.mono QY)).alloc _))
theorem pS (s:Ar)(t x:Int)(p:Sp):(cQ s t x p).1.ops<=s.ops+1:=by
 unfold cQ iC eu ac bY ae dO wrA;split
 ·repeat' split
  all_goals exact fD _ _ _ _
 ·repeat' split
  all_goals exact fD _ _ _ _
end
end Go.Proofs.YtglokdbiggbkjaaGreat
