/- Joined texts. -/
import Derived.Test.YtglokdbiggbkjaaGreatMgWorldAgain0
import Derived.Test.YtglokdbiggbkjaaGreatMgWorldAgain5
import Derived.Test.YtglokdbiggbkjaaGreatMgWorldAgain7
import Derived.Test.YtglokdbiggbkjaaGreatMgWorldAgain23
set_option linter.unusedVariables false
set_option linter.unusedSimpArgs false
set_option linter.defProp false
set_option maxRecDepth 100000
set_option maxHeartbeats 16000000
open Go.Proofs.Tryz
namespace Go.Proofs.YtglokdbiggbkjaaGreat
open Go.IntKind(i64)
open Go.Value(int bool slice agg tuple pointer)
open Go.Ending(returned)
open Go.Obj(cells)
variable{n N L j nd:Nat}{ml:Nat->Nat}{C BB z:Int}{P T W':List Int}{w' w0:World}{Q:Prop}
section
open Go
section
variable{c:CoC}{x:Nu}{B:Int}
def vW{p:Sp}(h:¬(p.a=1/\(p.pc=2\/p.pc=3\/p.pc=6\/p.pc=10\/p.pc=11))):jw p=false:=decide_eq_false h
def Gn{p:Sp}(h:p.a=1/\(p.pc=2\/p.pc=3\/p.pc=6\/p.pc=10\/p.pc=11)):jw p=true:=decide_eq_true h
def NuI.ask(h:NuI c n N ml x)(y:cD c n N ml){i:Nat}(hi:i<n)(r:Bool):NuI c n N ml (cG c x i r):=by
 unfold cG;split
 .rename_i h0;have Y:=h.k i hi;have O:(sv x.st.T i).pc=0:=by unfold gV at Y;omega
  have I:jw (sv x.U i)=false:=vW ahp;split;.exact h.upd hi h.m (λ_ _=>rfl) (.inr (.inl ⟨rfl,.inl rfl,O⟩)) (eA h hi (by rw[I];rfl) (λ_ _=>rfl)) (λj H _ hw=>h.fl j H hw) (λhw=>by unfold wrP at hw;simp at hw) (λ_ _=>Int.le_refl _) (λV=>by unfold fd at V;simp at V) (λ_ _ _ _ _=>rfl) (λe=>by simp at e) (λe=>by simp at e)
  .have hm:=h.m.ask y hi;have hs:=gx c x.st i;have hT:=(ii (c:=c) (j:=i) h.m.v hi).2 O;exact h.upd hi hm (λj H=>(ii (c:=c) h.m.v hi).1 H) (.inr (.inr (.inr (.inr (.inr (.inl ⟨rfl,rfl,by omega,by omega⟩)))))) (by rw[hs];exact eA h hi (by rw[I];rfl) (λ_ _=>rfl)) (λj H _ hw=>by rw[hs];exact h.fl j H hw) (λhw=>by unfold wrP at hw;simp at hw) (λa _=>by rw[hs];exact Int.le_refl _) (λV=>by unfold fd at V;simp at V) (λ_ _ _ _ _=>rfl) (λ_ e=>by simp at e) (λ_ e=>by simp at e)
 .exact h
def NuI.leave(h:NuI c n N ml x){i:Nat}(hi:i<n):NuI c n N ml (aK x i):=by
 unfold aK;split
 .rename_i h10;have hk:=h.k i hi;obtain⟨p,hp⟩:=LE (sv x.U i);have O:=h.fl i hi;rw[<-hp]at hk h10 O ⊢;have Y:(p.a=1/\(sv x.st.T i).pc=0)\/(p.a=0/\(sv x.st.T i).pc=10):=by unfold gV at hk;omega
  obtain⟨pc,u,b,z⟩:=p;simp only at h10 Y;subst h10;rcases Y with⟨rfl,I⟩|⟨rfl,I⟩
  .refine h.upd hi h.m (λ_ _=>rfl) (.inr (.inl ⟨rfl,.inr (.inr (.inr (.inr rfl))),I⟩)) (eA h hi ahv (λ_ _=>rfl)) (λj H _ hw=>h.fl j H hw) (λhw=>by unfold wrP at hw;simp at hw) (λ_ _=>Int.le_refl _) (λV=> .inl (by rw[<-hp];exact⟨rfl,.inr (.inl rfl)⟩)) (λ_ _ _ _ _=>rfl) (λe=>by simp at e) (λe=>by simp at e)
  .refine h.upd hi h.m (λ_ _=>rfl) (.inr (.inr (.inr (.inr (.inr (.inr (.inl ⟨rfl,.inr (.inr (.inr rfl)),I⟩))))))) (eA h hi ahv (λ_ _=>rfl)) (λj H _ hw=>h.fl j H hw) (λ_=>O ⟨rfl,.inr (.inl rfl)⟩) (λ_ _=>Int.le_refl _) (λV=>by unfold fd at V;simp at V) (λ_ _ _ _ _=>rfl) (λ_ e=>by simp at e) (λ_ e=>by simp at e)
 .exact h
def gS(s:Ar)(d:Dr):(aj s d).1.W=s.W:=by
 unfold aj;split
 .split;.exact aP _ _
  .exact aP _ _
 .rfl
def NuI.step(h:NuI c n N ml x)(y:cD c n N ml)(l:NuL c N x.st.s.W)(hB:CoB c B x.st)(Kd:40<=B)(Kj:B<=1000000000000){i:Nat}(hi:i<n):NuI c n N ml (cI c N x i):=by
  have hn:=(y.nd i hi).1;have J8:∀j,j<n->c.node j<N:=λj hj=>(y.nd j hj).1;have hk:=h.k i hi;have J1:=h.fl i hi;have KE:=h.dr i hi;obtain⟨p,hp⟩:=LE (sv x.U i);have oth:(sv x.st.T i).pc=10->∀j,j<n->j≠i->¬wrP (sv x.U j):=λht j hj e hw=>e (h.one y hj hi (JQ (h.k j hj) hw) ht);refine ajQ ?_;intro KR bA bW;refine ai3 ?_;intro wA wW;have lA:=vk h y l (z:=gaA (c.node i)) ⟨(eM hn).1,by have:=(eM hn).2;omega⟩ (ldW x.st.s.W (gaA (c.node i))+1) (s':=addA x.st.s (gaA (c.node i)) 1) (by rw[dX,wA]);have lW:=vk h y l (z:=gaW (c.node i)) ⟨(bG hn).1,by have:=(bG hn).2;omega⟩ (ldW x.st.s.W (gaW (c.node i))+1) (s':=addA x.st.s (gaW (c.node i)) 1) (by rw[dX,wW]);have lF:=λv=>vk h y l (z:=nuFl N) ⟨by unfold nuFl;omega,Int.le_refl _⟩ v (s':=ae x.st.s (nuFl N) v) (ay _ _ _);refine aiP ?_;intro fA fW HA;have HW:∀a,a<N->ldW x.st.s.W (gaW a)<=ldW (addA x.st.s (gaW (c.node i)) 1).W (gaW a):=λa _=>by exact abU
  refine ai1 ?_;intro HF SF mS lS JW tS aS;unfold cI;rw[<-hp];rw[<-hp]at hk J1 KE;split;. exact h
  rename_i E';split
  . rename_i h2;obtain⟨pc,u,b,z⟩:=p;simp only at h2;subst h2;have Ko:u=1/\(sv x.st.T i).pc=0:=(by unfold gV at hk;simp at hk;exact hk);obtain⟨rfl,ht⟩:=Ko;have e:(af x.st.s (nuFl N)).W=x.st.s.W:=aP _ _;refine h.upd hi (BV h y e) (λ_ _=>rfl) ?_ (eA h hi ?_ (λq _=>by show ldW (af _ _).W q=_;rw[e])) (λj hj _ hw=>by show ldW (af _ _).W _≠0;rw[e];exact h.fl j hj hw) (λhw=>by unfold wrP at hw;simp at hw) (λa _=>by show _<=ldW (af _ _).W _;rw[e];exact Int.le_refl _) (λV=> .inr (λj hj _ hw=>?_)) (λ_ _ _ _ _=>rfl) (λe=>by simp at e) (λe=>by simp at e)
    . refine .inr (.inl ⟨rfl,?_,ht⟩);simp only;split;. exact .inr (.inr (.inr (.inl rfl)))
      . exact .inr (.inr (.inl rfl))
    . rw[<-hp];simp only;split<;>rfl
    . have hf:=h.fl j hj hw;unfold fd at V;simp only at V;rw[if_neg hf]at V;omega
  rename_i h2;have ab:=oth;unfold gV at hk;obtain⟨pc,u,b,z⟩:=p;simp only at hk E' h2 J1 KE
  have Kf:(u=1/\pc=1/\(sv x.st.T i).pc=0)\/(u=1/\pc=3/\(sv x.st.T i).pc=0)\/(u=1/\pc=11/\(sv x.st.T i).pc=0)\/(u=1/\pc=4/\0<(sv x.st.T i).pc/\(sv x.st.T i).pc<10)\/(u=1/\pc=5/\(sv x.st.T i).pc=10)\/(u=1/\pc=6/\10<(sv x.st.T i).pc)\/
      (u=0/\pc=7/\0<(sv x.st.T i).pc/\(sv x.st.T i).pc<10)\/(u=0/\pc=8/\(sv x.st.T i).pc=10)\/(u=0/\pc=9/\(sv x.st.T i).pc=10)\/(u=0/\pc=12/\(sv x.st.T i).pc=10)\/(u=0/\pc=13/\10<(sv x.st.T i).pc):=by
    rcases hk with⟨I,H⟩|⟨I,H,Y⟩|⟨I,H,Y⟩|⟨I,H,Y⟩|⟨I,H,Y⟩|⟨I,H,Y⟩|⟨I,H,Y⟩|⟨I,H,Y⟩
    . exact absurd (.inl I) E'
    . rcases H with H|H|H|H|H
      . exact .inl ⟨I,H,Y⟩
      . exact absurd H h2
      . exact .inr (.inl ⟨I,H,Y⟩)
      . exact absurd (.inr H) E'
      . exact .inr (.inr (.inl ⟨I,H,Y⟩))
    . exact .inr (.inr (.inr (.inl ⟨I,H,Y⟩)))
    . exact .inr (.inr (.inr (.inr (.inl ⟨I,H,Y⟩))))
    . exact .inr (.inr (.inr (.inr (.inr (.inl ⟨I,H,Y⟩)))))
    . exact .inr (.inr (.inr (.inr (.inr (.inr (.inl ⟨I,H,Y⟩))))))
    . rcases H with H|H|H|H
      . exact .inr (.inr (.inr (.inr (.inr (.inr (.inr (.inl ⟨I,H,Y⟩)))))))
      . exact .inr (.inr (.inr (.inr (.inr (.inr (.inr (.inr (.inl ⟨I,H,Y⟩))))))))
      . exact absurd (.inr H) E'
      . exact .inr (.inr (.inr (.inr (.inr (.inr (.inr (.inr (.inr (.inl ⟨I,H,Y⟩)))))))))
    . exact .inr (.inr (.inr (.inr (.inr (.inr (.inr (.inr (.inr (.inr (⟨I,H,Y⟩))))))))))
  clear hk;rcases Kf with⟨rfl,rfl,ht⟩|⟨rfl,rfl,ht⟩|⟨rfl,rfl,ht⟩|⟨rfl,rfl,ht⟩|⟨rfl,rfl,ht⟩|⟨rfl,rfl,ht⟩|⟨rfl,rfl,ht⟩|⟨rfl,rfl,ht⟩|⟨rfl,rfl,ht⟩|⟨rfl,rfl,ht⟩|⟨rfl,rfl,ht⟩
  . show NuI c n N ml ⟨onA x.st (addA x.st.s (gaA (c.node i)) 1),x.d,x.U.set i ⟨2,1,b,z⟩⟩;exact h.upd (p':=⟨2,1,b,z⟩) hi lA.2 (λ_ _=>rfl) (.inr (.inl ⟨rfl,.inr (.inl rfl),ht⟩)) (Hj h J8 hi ahv rfl lA.1) (λj hj _ hw=>by rw[show ldW (onA x.st (addA x.st.s (gaA (c.node i)) 1)).s.W (nuFl N)=_ from fA];exact h.fl j hj hw) (λhw=>by unfold wrP at hw;simp at hw) HA (λV=>by unfold fd at V;simp at V) (λ_ _ _ _ _=>rfl) (λe=>by simp at e) (λe=>by simp at e)
  . show NuI c n N ml ⟨bI c (onA x.st (addA x.st.s (gaW (c.node i)) 1)) i,x.d,x.U.set i ⟨4,1,b,z⟩⟩;have hm:=lW.2.ask y hi;have hs:=gx c (onA x.st (addA x.st.s (gaW (c.node i)) 1)) i;have hT:=ii (c:=c) (st:=onA x.st (addA x.st.s (gaW (c.node i)) 1)) (j:=i) lW.2.v hi;have QI:(sv (bI c (onA x.st (addA x.st.s (gaW (c.node i)) 1)) i).T i).pc=1:=hT.2 ht;refine h.upd (p':=⟨4,1,b,z⟩) hi hm (λj hj=>(ii (c:=c) (st:=onA x.st (addA x.st.s (gaW (c.node i)) 1)) lW.2.v hi).1 hj) (.inr (.inr (.inl ⟨rfl,rfl,by omega,by omega⟩))) ?_ (λj hj _ hw=>?_) (λhw=>by unfold wrP at hw;simp at hw) (λa ha=>?_) (λV=>by unfold fd at V;simp at V) (λ_ _ _ _ _=>rfl) (λe=>by simp at e) (λe=>by simp at e);. show ∀a,a<N->ldW (bI c _ i).s.W _=_;rw[hs];exact EY h J8 hi ahv rfl lW.1
    . show ldW (bI c _ i).s.W _≠0;rw[hs];rw[show ldW (onA x.st (addA x.st.s (gaW (c.node i)) 1)).s.W (nuFl N)=_ from fW];exact h.fl j hj hw
    . show _<=ldW (bI c _ i).s.W _;rw[hs];exact HW a ha
  . show NuI c n N ml ⟨onA x.st (addA x.st.s (gaW (c.node i)) 1),x.d,x.U.set i ⟨0,1,b,z⟩⟩;exact h.upd (p':=⟨0,1,b,z⟩) hi lW.2 (λ_ _=>rfl) (.inl ⟨rfl,ht⟩) (EY h J8 hi ahv rfl lW.1) (λj hj _ hw=>by rw[show ldW (onA x.st (addA x.st.s (gaW (c.node i)) 1)).s.W (nuFl N)=_ from fW];exact h.fl j hj hw) (λhw=>by unfold wrP at hw;simp at hw) HW (λV=>by unfold fd at V;simp at V) (λ_ _ _ _ _=>rfl) (λe=>by simp at e) (λe=>by simp at e)
  . have a1:=aS.1 ht;show NuI c n N ml ⟨am c x.st i,x.d,x.U.set i (nuTo ⟨4,1,b,z⟩ (bo (sv x.st.T i) (sv (am c x.st i).T i)))⟩;rw[a1.2];by_cases KU:(sv (am c x.st i).T i).pc=10;. rw[decide_eq_true KU];exact h.upd (p':=⟨5,1,b,z⟩) hi mS tS (.inr (.inr (.inr (.inl ⟨rfl,rfl,KU⟩)))) (eA h hi ahv (λq hq=>JW q ahp)) (λj hj _ hw=>by rw[JW _ (Int.le_refl _)];exact h.fl j hj hw) (λhw=>by unfold wrP at hw;simp at hw) (λa ha=>by rw[JW _ ahx];exact Int.le_refl _) (λV=>by unfold fd at V;simp at V) (λ_ _ _ _ _=>rfl) (λe=>by simp at e) (λe=>by simp at e)
    . rw[decide_eq_false KU];exact h.upd (p':=⟨4,1,b,z⟩) hi mS tS (.inr (.inr (.inl ⟨rfl,rfl,a1.1.1,by omega⟩))) (eA h hi ahC (λq hq=>JW q ahp)) (λj hj _ hw=>by rw[JW _ (Int.le_refl _)];exact h.fl j hj hw) (λhw=>by unfold wrP at hw;simp at hw) (λa ha=>by rw[JW _ ahx];exact Int.le_refl _) (λV=>by unfold fd at V;simp at V) (λ_ _ _ _ _=>rfl) (λe=>by simp at e) (λe=>by simp at e)
  . show NuI c n N ml ⟨aA (onA x.st (addA x.st.s (gaA (c.node i)) 1)) i,x.d,x.U.set i ⟨6,1,b,z⟩⟩;have hm:=lA.2.leave y hi;have hs:=fz (onA x.st (addA x.st.s (gaA (c.node i)) 1)) i;have QI:(sv (aA (onA x.st (addA x.st.s (gaA (c.node i)) 1)) i).T i).pc=11:=(eR (st:=onA x.st (addA x.st.s (gaA (c.node i)) 1)) (j:=i) lA.2.v hi).2 ht;refine h.upd (p':=⟨6,1,b,z⟩) hi hm (λj hj=>(eR (st:=onA x.st (addA x.st.s (gaA (c.node i)) 1)) lA.2.v hi).1 hj) (.inr (.inr (.inr (.inr (.inl ⟨rfl,rfl,by omega⟩))))) ?_ (λj hj _ hw=>?_) (λhw=>by unfold wrP at hw;simp at hw) (λa ha=>?_) (λ_=> .inr (oth ht)) (λ_ _ _ _ _=>rfl) (λe=>by simp at e) (λe=>by simp at e);. show ∀a,a<N->ldW (aA _ i).s.W _=_;rw[hs];exact Hj h J8 hi ahv rfl lA.1
    . show ldW (aA _ i).s.W _≠0;rw[hs];rw[show ldW (onA x.st (addA x.st.s (gaA (c.node i)) 1)).s.W (nuFl N)=_ from fA];exact h.fl j hj hw
    . show _<=ldW (aA _ i).s.W _;rw[hs];exact HA a ha
  . have a1:=aS.2 ht;show NuI c n N ml ⟨am c x.st i,x.d,x.U.set i (nuTo ⟨6,1,b,z⟩ (bo (sv x.st.T i) (sv (am c x.st i).T i)))⟩;rw[a1.2];have J0:fd (sv x.U i):=(by rw[<-hp];exact⟨rfl,.inl rfl⟩);by_cases KU:(sv (am c x.st i).T i).pc=0;. rw[decide_eq_true KU];exact h.upd (p':=⟨10,1,b,z⟩) hi mS tS (.inr (.inl ⟨rfl,.inr (.inr (.inr (.inl rfl))),KU⟩)) (eA h hi ahv (λq hq=>JW q ahp)) (λj hj _ hw=>by rw[JW _ (Int.le_refl _)];exact h.fl j hj hw) (λhw=>by unfold wrP at hw;simp at hw) (λa ha=>by rw[JW _ ahx];exact Int.le_refl _) (λ_=> .inl J0) (λ_ _ _ _ _=>rfl) (λe=>by simp at e) (λe=>by simp at e)
    . rw[decide_eq_false KU];exact h.upd (p':=⟨6,1,b,z⟩) hi mS tS (.inr (.inr (.inr (.inr (.inl ⟨rfl,rfl,by omega⟩))))) (eA h hi ahC (λq hq=>JW q ahp)) (λj hj _ hw=>by rw[JW _ (Int.le_refl _)];exact h.fl j hj hw) (λhw=>by unfold wrP at hw;simp at hw) (λa ha=>by rw[JW _ ahx];exact Int.le_refl _) (λ_=> .inl J0) (λ_ _ _ _ _=>rfl) (λe=>by simp at e) (λe=>by simp at e)
  . have a1:=aS.1 ht;show NuI c n N ml ⟨am c x.st i,x.d,x.U.set i (nuTo ⟨7,0,b,z⟩ (bo (sv x.st.T i) (sv (am c x.st i).T i)))⟩;rw[a1.2];by_cases KU:(sv (am c x.st i).T i).pc=10;. rw[decide_eq_true KU];exact h.upd (p':=⟨8,0,b,z⟩) hi mS tS (.inr (.inr (.inr (.inr (.inr (.inr (.inl ⟨rfl,.inl rfl,KU⟩))))))) (eA h hi ahv (λq hq=>JW q ahp)) (λj hj _ hw=>by rw[JW _ (Int.le_refl _)];exact h.fl j hj hw) (λhw=>by unfold wrP at hw;simp at hw) (λa ha=>by rw[JW _ ahx];exact Int.le_refl _) (λV=>by unfold fd at V;simp at V) (λ_ _ _ _ _=>rfl) (λ_ e=>by simp at e) (λ_ e=>by simp at e)
    . rw[decide_eq_false KU];exact h.upd (p':=⟨7,0,b,z⟩) hi mS tS (.inr (.inr (.inr (.inr (.inr (.inl ⟨rfl,rfl,a1.1.1,by omega⟩)))))) (eA h hi ahC (λq hq=>JW q ahp)) (λj hj _ hw=>by rw[JW _ (Int.le_refl _)];exact h.fl j hj hw) (λhw=>by unfold wrP at hw;simp at hw) (λa ha=>by rw[JW _ ahx];exact Int.le_refl _) (λV=>by unfold fd at V;simp at V) (λ_ _ _ _ _=>rfl) (λ_ e=>by simp at e) (λ_ e=>by simp at e)
  . show NuI c n N ml ⟨onA x.st (ae x.st.s (nuFl N) 1),dS x.d N false,x.U.set i ⟨9,0,b,z⟩⟩;have hN:1<=N:=(by omega);refine h.upd (p':=⟨9,0,b,z⟩) hi (lF 1).2 (λ_ _=>rfl) (.inr (.inr (.inr (.inr (.inr (.inr (.inl ⟨rfl,.inr (.inl rfl),ht⟩))))))) (eA h hi ahv (SF 1)) (λj hj e hw=>absurd hw (oth ht j hj e)) (λ_=>by show ldW (ae _ _ _).W _≠0;rw[(lF 1).1,if_pos rfl];decide) (HF 1) (λV=>by unfold fd at V;simp at V) (λj hj e h0 h9=>(KR ht j hj e h0 h9).elim) (λ_ _=>?_) (λ_ e=>by simp at e);exact⟨⟨rfl,rfl,hN,rfl⟩,λe=>by simp[dS]at e,λj hj _=>Nat.zero_le _⟩
  . obtain⟨⟨I,H,Y,q4⟩,q5,q6⟩:=KE rfl rfl;have ML:=J1 ⟨rfl,.inl rfl⟩;have hW:=gS x.st.s x.d;have hs:=svS (show i<x.U.length by rw[h.lU];exact hi)
    have nr:∀J9 j,fd (sv (x.U.set i ⟨J9,0,b,z⟩) j)->j≠i/\fd (sv x.U j):=λJ9 j V=>by
      rw[hs]at V;split at V;. unfold fd at V;simp at V
      . rename_i e;exact⟨e,V⟩
    have go:∀(J9:Int) (d':Dr),(J9=9\/J9=10)->(J9=9->DrI c n N d' x.st.s.W (x.U.set i ⟨J9,0,b,z⟩))->(J9=10->∀j,j<n->j≠i->¬fd (sv x.U j))->NuI c n N ml ⟨onA x.st (aj x.st.s x.d).1,d',x.U.set i ⟨J9,0,b,z⟩⟩:=λJ9 d' JU o9 Rq=>by
      refine h.upd (p':=⟨J9,0,b,z⟩) hi (BV h y hW) (λ_ _=>rfl) (.inr (.inr (.inr (.inr (.inr (.inr (.inl ⟨rfl,?_,ht⟩))))))) (eA h hi ?_ (λq _=>by show ldW (aj _ _).1.W q=_;rw[hW])) (λj hj _ hw=>by show ldW (aj _ _).1.W _≠0;rw[hW];exact h.fl j hj hw) (λ_=>by show ldW (aj _ _).1.W _≠0;rw[hW];exact ML) (λa _=>by show _<=ldW (aj _ _).1.W _;rw[hW];exact Int.le_refl _) (λV=>by unfold fd at V;simp at V) (λj hj e h0 h9=>(KR ht j hj e h0 h9).elim) (λ_ h9=>?_) (λ_ h10=>Rq h10)
      . rcases JU with rfl|rfl
        . exact .inr (.inl rfl)
        . exact .inr (.inr (.inl rfl))
      . rw[<-hp,vW ahq,vW ahq]
      . show DrI c n N d' (aj _ _).1.W _;rw[hW];exact o9 h9
    show NuI c n N ml ⟨onA x.st (aj x.st.s x.d).1,(aj x.st.s x.d).2.1,x.U.set i (nuTo ⟨9,0,b,z⟩ (aj x.st.s x.d).2.2)⟩;by_cases NF:x.d.second=true
    . have e1:aj x.st.s x.d=(af x.st.s (gaA x.d.at_),dR x.st.s x.d):=(by unfold aj;rw[I,NF];rfl);have e2:(aj x.st.s x.d).2=dR x.st.s x.d:=(by rw[e1]);rw[e2];unfold dR;by_cases O:ldW x.st.s.W (gaA x.d.at_)=x.d.o
      . rw[if_neg (by simpa using O)];have hg:=h.g x.d.at_ Y;have WI:=q5 NF;have Wd:kF c n x.U x.d.at_=0:=by omega
        have Nd:∀j,j<n->fd (sv x.U j)->c.node j≠x.d.at_:=λj hj V e=>by
          have:0<kF c n x.U x.d.at_:=jB (P:=λj=>decide (c.node j=x.d.at_)&&jw (sv x.U j)) hj (by
            simp only[Bool.and_eq_true,decide_eq_true_eq];refine⟨e,Gn ⟨V.1,?_⟩⟩;rcases V.2 with h1|h1|h1
            . exact .inr (.inr (.inl h1))
            . exact .inr (.inr (.inr (.inl h1)))
            . exact .inr (.inr (.inr (.inr h1))))
          omega
        by_cases OR:x.d.at_+1=x.d.lim;. rw[if_pos OR];refine go 10 _ (.inr rfl) (λe=>by simp at e) (λ_ j hj e V=>?_);have h1:=q6 j hj V;have h2:=Nd j hj V;have h3:=J8 j hj;omega
        . rw[if_neg OR];refine go 9 _ (.inl rfl) (λ_=>⟨⟨I,H,by show x.d.at_+1<N;omega,q4⟩,λe=>by simp at e,λj hj V=>?_⟩) (λe=>by simp at e);have KQ:=(nr 9 j V).2;have h1:=q6 j hj KQ;have h2:=Nd j hj KQ;show x.d.at_+1<=c.node j;omega
      . rw[if_pos O,if_neg (by rw[H];decide)];exact go 9 _ (.inl rfl) (λ_=>⟨⟨I,H,Y,q4⟩,λe=>by simp at e,λj hj V=>q6 j hj (nr 9 j V).2⟩) (λe=>by simp at e)
    . have e1:aj x.st.s x.d=(af x.st.s (gaW x.d.at_),{x.d with o:=ldW x.st.s.W (gaW x.d.at_),second:=true},false):=(by unfold aj;rw[if_pos I,if_neg NF]);have e2:(aj x.st.s x.d).2=({x.d with o:=ldW x.st.s.W (gaW x.d.at_),second:=true},false):=(by rw[e1]);rw[e2];exact go 9 _ (.inl rfl) (λ_=>⟨⟨I,H,Y,q4⟩,λ_=>Int.le_refl _,λj hj V=>q6 j hj (nr 9 j V).2⟩) (λe=>by simp at e)
  . show NuI c n N ml ⟨aA (onA x.st (ae x.st.s (nuFl N) 0)) i,x.d,x.U.set i ⟨13,0,b,z⟩⟩;refine ajS ?_;intro hm hs QI;refine h.upd (p':=⟨13,0,b,z⟩) hi hm (λj hj=>(eR (st:=onA x.st (ae x.st.s (nuFl N) 0)) (lF 0).2.v hi).1 hj) (.inr (.inr (.inr (.inr (.inr (.inr (.inr ⟨rfl,rfl,by omega⟩))))))) ?_ (λj hj e hw=>absurd hw (oth ht j hj e)) (λhw=>by unfold wrP at hw;simp at hw) (λa ha=>?_) (λV=>by unfold fd at V;simp at V) (λ_ _ _ _ _=>rfl) (λ_ e=>by simp at e) (λ_ e=>by simp at e);. show ∀a,a<N->ldW (aA _ i).s.W _=_;rw[hs];exact eA h hi ahv (SF 0)
    . show _<=ldW (aA _ i).s.W _;rw[hs];exact HF 0 a ha
  . have a1:=aS.2 ht;show NuI c n N ml ⟨am c x.st i,x.d,x.U.set i (nuTo ⟨13,0,b,z⟩ (bo (sv x.st.T i) (sv (am c x.st i).T i)))⟩;rw[a1.2];by_cases KU:(sv (am c x.st i).T i).pc=0;. rw[decide_eq_true KU];exact h.upd (p':=⟨0,0,b,z⟩) hi mS tS (.inl ⟨rfl,KU⟩) (eA h hi ahv (λq hq=>JW q ahp)) (λj hj _ hw=>by rw[JW _ (Int.le_refl _)];exact h.fl j hj hw) (λhw=>by unfold wrP at hw;simp at hw) (λa ha=>by rw[JW _ ahx];exact Int.le_refl _) (λV=>by unfold fd at V;simp at V) (λ_ _ _ _ _=>rfl) (λ_ e=>by simp at e) (λ_ e=>by simp at e)
    . rw[decide_eq_false KU];exact h.upd (p':=⟨13,0,b,z⟩) hi mS tS (.inr (.inr (.inr (.inr (.inr (.inr (.inr ⟨rfl,rfl,by omega⟩))))))) (eA h hi ahC (λq hq=>JW q ahp)) (λj hj _ hw=>by rw[JW _ (Int.le_refl _)];exact h.fl j hj hw) (λhw=>by unfold wrP at hw;simp at hw) (λa ha=>by rw[JW _ ahx];exact Int.le_refl _) (λV=>by unfold fd at V;simp at V) (λ_ _ _ _ _=>rfl) (λ_ e=>by simp at e) (λ_ e=>by simp at e)
end
end
section
open Go Go.RowKit
def svR(k i:Nat):sv (List.replicate k Sp.zero) i=Sp.zero:=by exact aa4
section
variable{c:CoC}{x:Nu}{st:Co}{B:Int}{o:Nat}
def bM.on(h:bM c n L B o st){s':Ar}(H:B<=C)(hw:WdB C s')(I:eE st.s s'):bM c n L C (o+1) (onA st s'):=
 ⟨⟨hw,(h.bd.mono H).g,(h.bd.mono H).l,(h.bd.mono H).t⟩,h.v.ars s',by show s'.W.length=L;rw[I.2,h.len],by show s'.ops<=o+1;have:=I.1;have:=h.ops;omega⟩
def bM.up(h:bM c n L B o st)(H:B<=C){p:Nat}(I:o<=p):bM c n L C p st:=⟨h.bd.mono H,h.v,h.len,by have:=h.ops;omega⟩
def vv(s:Ar)(d:Dr):eE s (aj s d).1:=by
 unfold aj;split
 .split;.exact gb _ _
  .exact gb _ _
 .exact⟨Nat.le_succ _,rfl⟩
def yZ(h:bM c n L B o x.st)(k:kP c n N L)(hB:40<=B)(KD:B<=1000000000000){i:Nat}(hi:i<n)(pc:Int):bM c n L (B+4) (o+1) (iw c N x i pc).1:=by
 have Ly:∀z,bM c n L (B+2) (o+1) (onA x.st (addA x.st.s z 1)):=λz=>h.on ahp (h.bd.w.add1 ahp ahp z) (ln _ _ _);have I:∀z v,0<=v/\v<=1->bM c n L (B+2) (o+1) (onA x.st (ae x.st.s z v)):=λz v O=>h.on ahp ((h.bd.w.mono ahp).store z v ahp) (iS _ _ _);have Y:∀{H},bM c n L (B+2) (o+1) H->bM c n L (B+4) (o+1) (bI c H i):=λ{H} q=>by exact abV
 have V:∀{H},bM c n L (B+2) (o+1) H->bM c n L (B+4) (o+1) (aA H i):=λ{H} q=>by exact abW
 unfold iw;split;.exact abX
 split;.exact Y (Ly _)
 split;.exact V (Ly _)
 split;.exact(I _ _ ahp).mono ahp
 split;.exact h.on ahp ((h.bd.w.mono ahp).same (gS _ _)) (vv _ _)
 split;.exact abX
 split;.exact V (I _ _ ahp)
 .exact abY
def y9(h:bM c n L B o x.st)(k:kP c n N L)(I:40<=B)(H:B<=1000000000000){i:Nat}(hi:i<n):bM c n L (B+4) (o+1) (cI c N x i).st:=by
 unfold cI;split;.exact h.up ahp ahp
 split;.exact h.on ahp ((h.bd.w.mono ahp).load _) (gb _ _)
 .exact yZ h k I H hi _
def lr(h:bM c n L B o x.st)(k:kP c n N L)(H:40<=B){i:Nat}(hi:i<n)(r:Bool):bM c n L (B+4) o (cG c x i r).st/\(cG c x i r).st.s=x.st.s:=by
 unfold cG;split
 .split;.exact⟨h.up ahp (Nat.le_refl _),rfl⟩
  .have q:=h.ask k ahp hi;exact⟨⟨q.bd.mono ahp,q.v,q.len,by show(bI c x.st i).s.ops<=o;rw[gx];exact h.ops⟩,gx _ _ _⟩
 .exact⟨h.up ahp (Nat.le_refl _),rfl⟩
def kM(x:Nu)(i:Nat):(aK x i).st=x.st:=by unfold aK;split<;>rfl
structure NuK(c:CoC)(n N L:Nat)(ml:Nat->Nat):Prop where
 w:kP c n N L
 y:cD c n N ml
 tg:c.tg=2*(N:Int)+2
 len:2*(N:Int)+1<=(L:Int)
 N1:1<=N
structure NuS(c:CoC)(n N L:Nat)(ml:Nat->Nat)(B:Int)(x:Nu):Prop where
 i:NuI c n N ml x
 ok:bM c n L B x.st.s.ops x.st
def r9(c:CoC)(N:Nat)(x:Nu)(kd i:Int):Nu:=
 if okI x.U i then if kd=0 then cI c N x i.toNat else if kd=1 then cG c x i.toNat false else if kd=2 then aK x i.toNat else if kd=3 then cG c x i.toNat true else x else x
def NuS.act(h:NuS c n N L ml B x)(k:NuK c n N L ml)(H:40<=B)(I:B<=1000000000000)(kd i:Int):NuS c n N L ml (B+4) (r9 c N x kd i)/\(r9 c N x kd i).st.s.ops<=x.st.s.ops+1/\(kd≠0->(r9 c N x kd i).st.s.ops=x.st.s.ops):=by
  have same:NuS c n N L ml (B+4) x:=⟨h.i,h.ok.mono ahp⟩;unfold r9;split
  . rename_i O;have hi:i.toNat<n:=(by obtain⟨V,h1⟩:=O;have:=h.i.lU;omega);split;. rename_i k0;have q:=y9 h.ok k.w H I hi;refine⟨⟨h.i.step k.y ⟨k.tg,by rw[h.ok.len];exact k.len⟩ h.ok.bd H I hi,⟨q.bd,q.v,q.len,Nat.le_refl _⟩⟩,q.ops,λe=>absurd k0 e⟩
    split;. have q:=lr h.ok k.w H hi false;refine⟨⟨h.i.ask k.y hi false,by rw[q.2];exact q.1⟩,by rw[q.2];omega,λ_=>by rw[q.2]⟩
    split;. have e:=kM x i.toNat;refine⟨⟨h.i.leave hi,by rw[e];exact same.ok⟩,by rw[e];omega,λ_=>by rw[e]⟩
    split;. have q:=lr h.ok k.w H hi true;refine⟨⟨h.i.ask k.y hi true,by rw[q.2];exact q.1⟩,by rw[q.2];omega,λ_=>by rw[q.2]⟩
    . exact⟨same,by omega,λ_=>rfl⟩
  . exact⟨same,by omega,λ_=>rfl⟩
end
section
variable{kg kl par:Nat}{bud:Int}{s:Ar}
def xI(hs:s.W=[])(N:Nat):WdB 0 (smA s N)/\(smA s N).W.length=2*N+1:=by
 have e:(smA s N).W=(s.W++List.replicate (2*N) 0)++List.replicate 1 0:=rfl;rw[hs,List.nil_append]at e;refine⟨λv O=>?_,by rw[e];simp⟩;rw[e]at O;rcases List.mem_append.1 O with h1|h1
 .rw[(List.mem_replicate.1 h1).2];omega
 .rw[(List.mem_replicate.1 h1).2];omega
def Gg(hc:a5 P T=0)(H:1<=kg/\kg<=5)(h:1<=kl/\kl<=5)(I:1<=par/\par<=4)(hs:s.W=[])(hN:1<=(ac P).length):NuK (eZ kg kl par bud P T (smA s (ac P).length)) T.length (ac P).length (bE kg kl par P T (smA s (ac P).length)).s.W.length (mtQ P T):=by
  have hw:=vC (bud:=bud) (s:=smA s (ac P).length) hc H h I;have V:=(xI hs (ac P).length).2;have O:(eZ kg kl par bud P T (smA s (ac P).length)).tg=2*((ac P).length:Int)+2:=by show(((smA s (ac P).length).W.length+1:Nat):Int)=_;rw[V];omega
  refine⟨hw,vl (bud:=bud) hc H h I,O,?_,hN⟩;have:=hw.tg;rw[O]at this;omega
def JB(hc:a5 P T=0)(Li:1<=kg/\kg<=5)(Y:1<=kl/\kl<=5)(hp:1<=par/\par<=4)(hs:s.W=[]):NuS (eZ kg kl par bud P T (smA s (ac P).length)) T.length (ac P).length (bE kg kl par P T (smA s (ac P).length)).s.W.length (mtQ P T) 40 ⟨bE kg kl par P T (smA s (ac P).length),dr0,List.replicate T.length Sp.zero⟩/\(bE kg kl par P T (smA s (ac P).length)).s.ops<=s.ops+40:=by
  refine ajy ?_;intro hz OK mP;have hw:∀y:Int,y<=((smA s (ac P).length).W.length:Int)->ldW (bE kg kl par P T (smA s (ac P).length)).s.W y=0:=λy hy=>by exact abZ
  have h:∀i,sv (List.replicate T.length Sp.zero) i=Sp.zero:=svR _;refine⟨⟨⟨xu hc Li Y hp OK,by simp,λi hi=> .inl ⟨?_,?_⟩,λa V=>?_,λi hi hw=>?_,λi hi h0 O=>?_,λi hi h0 O=>?_⟩,⟨mP.bd,mP.v,mP.len,Nat.le_refl _⟩⟩,mP.ops⟩;. show(sv (List.replicate T.length Sp.zero) i).pc=0;rw[h];rfl
  . show(sv (List.replicate T.length Sp.zero) i).pc=0;rw[h];rfl
  . have hc0:kF (eZ kg kl par bud P T (smA s (ac P).length)) T.length (List.replicate T.length Sp.zero) a=0:=(by unfold kF jd;refine List.countP_eq_zero.2 (λj _=>?_);rw[h];simp[jw,Sp.zero]);show ldW _ _=ldW _ _+((kF _ _ (List.replicate T.length Sp.zero) a:Nat):Int);rw[hc0];have g1:=eM V;have g2:=bG V;unfold nuFl at g1 g2;have hl:=hz.2;rw[hw _ ahN,hw _ ahN];rfl
  . have I:wrP (sv (List.replicate T.length Sp.zero) i):=hw;rw[h]at I;unfold wrP Sp.zero at I;simp at I
  . have H:(sv (List.replicate T.length Sp.zero) i).pc=9:=O;rw[h]at H;simp[Sp.zero]at H
  . have H:(sv (List.replicate T.length Sp.zero) i).pc=10:=O;rw[h]at H;simp[Sp.zero]at H
end
end
section
open Go Go.RowKit
variable{c:CoC}
structure mO where
 ty:TypeId
 pt:TypeId
 md:Int
 step:CoC->Nat->Nu->Nat->Nu
 ask:CoC->Nu->Nat->Bool->Nu
 ok:CoC->Nat->Nat->Nat->(Nat->Nat)->Int->Nu->Prop
def rwQ(q:Nat):Value:= ↑q
def rwC(F:mO)(l:Nat):Array Value:=#[J F.md,.iface F.pt ↑l]
def rwV(q:Nat):Value:= .iface 192 (agg #[↑q])
def mO.Act(F:mO)(B BC:Nat->Prop)(w:World)(a g:Nat)(X:SmX)(c:CoC)(P T:List Int)(x':Nu)(r:Bool)(e:Ending)(w':World):Prop:=
 e= returned (.bool r)/\aw F.ty B BC w' a g X c P T x'.st x'.d x'.U/\aa (SmS a g X) w w'
structure mO.Ok(F:mO)(c:CoC)(P T:List Int)(L:Nat):Prop where
 act:∀B x,F.ok c T.length (ac P).length L (mtQ P T) B x->40<=B->B<=1000000000000->∀i,i<T.length->
  (F.ok c T.length (ac P).length L (mtQ P T) (B+4) (F.step c (ac P).length x i)/\(F.step c (ac P).length x i).st.s.ops<=x.st.s.ops+1)/\
  (∀r,F.ok c T.length (ac P).length L (mtQ P T) (B+4) (F.ask c x i r))/\F.ok c T.length (ac P).length L (mtQ P T) (B+4) (aK x i)
 mono:∀B B' x,F.ok c T.length (ac P).length L (mtQ P T) B x->B<=B'->F.ok c T.length (ac P).length L (mtQ P T) B' x
 lU:∀B x,F.ok c T.length (ac P).length L (mtQ P T) B x->x.U.length=T.length
 safe:∀B x,F.ok c T.length (ac P).length L (mtQ P T) B x->∀i j,i<T.length->j<T.length->(sv x.U i).pc=10->(sv x.U j).pc=10->(sv x.U i).a=0->j=i/\(sv x.U j).a=0
 link:∀B x,F.ok c T.length (ac P).length L (mtQ P T) B x->∀i,i<T.length->0<=(sv x.U i).pc/\((sv x.U i).pc≠0->(sv x.U i).a=0\/(sv x.U i).a=1)
 askS:∀x i r,(F.ask c x i r).st.s=x.st.s
 cS:∀(B BC:Nat->Prop) (w:World) (a g:Nat) (X:SmX) (q:Nat) (x:Nu) (BB:Int) (i:Nat),aw F.ty B BC w a g X c P T x.st x.d x.U->F.ok c T.length (ac P).length L (mtQ P T) BB x->40<=BB/\BB<=10000000000->x.st.s.ops+1<=1000000000000->Blk w q 273 (rwC F X.l)->i<T.length->
  Calls prog 356 #[rwQ q,int i64 i] w (F.Act B BC w a g X c P T (F.step c (ac P).length x i) (dB (sv x.U i) (sv (F.step c (ac P).length x i).U i)))
 cA:∀(B BC:Nat->Prop) (w:World) (a g:Nat) (X:SmX) (q:Nat) (x:Nu) (i:Nat) (r:Bool),aw F.ty B BC w a g X c P T x.st x.d x.U->Blk w q 273 (rwC F X.l)->i<T.length->
  Calls prog 352 #[rwQ q,int i64 i,.bool r] w (F.Act B BC w a g X c P T (F.ask c x i r) (decide ((sv x.U i).pc=0)))
 cL:∀(B BC:Nat->Prop) (w:World) (a g:Nat) (X:SmX) (q:Nat) (x:Nu) (i:Nat),aw F.ty B BC w a g X c P T x.st x.d x.U->Blk w q 273 (rwC F X.l)->i<T.length->((sv x.U i).pc=10->(sv x.U i).a=0\/(sv x.U i).a=1)->
  Calls prog 353 #[rwQ q,int i64 i] w (F.Act B BC w a g X c P T (aK x i) (decide ((sv x.U i).pc=10)))
 cP:∀(B BC:Nat->Prop) (w:World) (a g:Nat) (X:SmX) (q:Nat) (x:Nu) (i:Nat),aw F.ty B BC w a g X c P T x.st x.d x.U->Blk w q 273 (rwC F X.l)->i<T.length->
  Calls prog 355 #[rwQ q,int i64 i] w λe w'=>e= returned (aC (sv x.U i))/\Below w.heap.size w w'
structure RwB where
 B:Nat->Prop
 BC:Nat->Prop
 a:Nat
 g:Nat
 X:SmX
 q:Nat
 bt:Nat
 hi:Nat
def aw.farR{ty:TypeId}{B BC:Nat->Prop}{w:World}{a g:Nat}{X:SmX}{st:Co}{d:Dr}{U:List Sp}{S:List Nat}(h:aw ty B BC w a g X c P T st d U)(t:aa S w w')(h1:∀i∈S,¬B i/\¬eQ X.x BC i/\i≠X.l/\i≠X.gg)(V:∀i∈S,i∉SmS a g X):aw ty B BC w' a g X c P T st d U:=by have no:∀j,j∈SmS a g X->j∉S:=λj H hm=>V j hm H;have Y:=no a (by simp[SmS,CoS]);have hg:=no g (by simp[SmS,CoS]);have I:=h.gd.ar.turns t Y hg;have k:=h.co.arAway t (s':=st.s) I (λj H=> .inr (.inr (h1 j H).2.1));have O:X.gg∉S:=λm=>(h1 _ m).2.2.2 rfl;exact {h with lk:=t.blk h.lk (λm=>(h1 _ m).2.2.1 rfl),gd:={h.gd with ar:=I,ga:=t.blk h.gd.ga O,dr:=t.blk h.gd.dr (no _ (by simp[SmS]))},tb:=h.tb.turns t (λj H=>(h1 j H).1),sp:=h.sp.turns t (no _ (by simp[SmS])),co:=k}
def FY(F:mO)(c:CoC)(P T:List Int)(L:Nat):LkM T.length where
 σ:=Nu
 β:=RwB
 ok:=λst N=>F.ok c T.length (ac P).length L (mtQ P T) (40+4*N) st/\st.st.s.ops<=N+1000
 ar:=λst=>st.st.s
 sp:=λst i=>sv st.U i
 cn:=λst i=>if (sv st.U i).pc=10 then 1 else 0
 rd:=true
 step:=F.step c (ac P).length
 ask:=F.ask c
 leave:=aK
 bt:=λb=>b.bt
 hi:=λb=>b.hi
 fp:=λb=>SmS b.a b.g b.X
 is:=λb w a g lb st=>aw F.ty b.B b.BC w a g b.X c P T st.st st.d st.U/\(b.a=a/\b.g=g)/\jy w lb T.length (10+F.md) (rwV b.q) (SmS b.a b.g b.X) b.bt b.hi/\(Blk w b.q 273 (rwC F b.X.l)/\(b.bt<=b.q/\b.q<b.hi)/\b.q∉SmS b.a b.g b.X)/\∀i,b.B i\/eQ b.X.x b.BC i\/i=b.X.l\/i=b.X.gg->b.bt<=i/\i<b.hi
def oS(x:Nu)(i:Nat):(aK x i).st.s=x.st.s:=by unfold aK;split<;>rfl
def yP{F:mO}(hm:1<=F.md/\F.md<=3)(hc:a5 P T=0)(H:F.Ok c P T L):(FY F c P T L).Good where
 n32:=by have:=bi (aQ hc).1;exact⟨this.2.2.1,this.2.2.2⟩
 okS:=fun(st:Nu) N i h hN hi=>by
  unfold lkB at hN
  have:=(H.act _ _ h.1 ahp ahp i hi).1
  exact⟨H.mono _ _ _ this.1 ahM,by have:=h.2;have:=(H.act _ _ h.1 ahp ahp i hi).1.2;show(F.step c (ac P).length st i).st.s.ops<=_;omega⟩
 okA:=fun(st:Nu) N i r h hN hi=>by
  unfold lkB at hN
  have:=(H.act _ _ h.1 ahp ahp i hi).2.1 r
  exact⟨H.mono _ _ _ this ahM,by have:=h.2;show(F.ask c st i r).st.s.ops<=_;rw[H.askS];omega⟩
 okL:=fun(st:Nu) N i h hN hi=>by
  unfold lkB at hN
  have:=(H.act _ _ h.1 ahp ahp i hi).2.2
  exact⟨H.mono _ _ _ this ahM,by have:=h.2;show(aK st i).st.s.ops<=_;rw[oS];omega⟩
 okm:=fun(st:Nu) N h=>⟨H.mono _ _ _ h.1 ahM,by have:=h.2;omega⟩
 one:=fun(st:Nu) N i j h hi hj h1 h2 h3=>by
  have e1:(sv st.U i).pc=10:=h1
  have l1:=(H.link _ _ h.1 i hi).2 ahp
  have O:(true&&decide ((sv st.U i).a=1))=false:=h3
  simp only[Bool.true_and,decide_eq_false_iff_not]at O
  exact(H.safe _ _ h.1 i j hi hj h1 h2 ahp).1.symm
 pcs:=fun(st:Nu) N i h hi=>(H.link _ _ h.1 i hi).1
 cnt:=fun(st:Nu) N i h hi=>by
  show(sv st.U i).pc=10↔0<(if (sv st.U i).pc=10 then(1:Int)else 0)
  split<;>simp[*]
 opsS:=fun(st:Nu) N i h hN hi=>by
  unfold lkB at hN
  exact(H.act _ _ h.1 ahp ahp i hi).1.2
 arA:=fun(st:Nu) i r=>H.askS st i r
 arL:=fun(st:Nu) i=>oS st i
 ais:=fun(b:RwB) w a g lb (st:Nu) h=>h.1.gd.ar
 lk:=fun(b:RwB) w a g lb (st:Nu) h=>h.2.2.1.c1
 kd:=fun(b:RwB) w a g lb (st:Nu) h=>⟨_,h.2.2.1.blk.cell 0,(decide_eq_true ahp).symm⟩
 fpa:=fun(b:RwB) w a g lb (st:Nu) h=>⟨λx Y=>(h.2.2.1.fl x Y).2,h.2.2.1.hw⟩
 far:=fun(b:RwB) w a g lb (st:Nu) w' S h t hS=>by
  obtain⟨k,⟨rfl,rfl⟩,hd,hq,hl⟩:=h
  have I:∀x∈S,b.hi<=x\/x<b.bt:=hS
  have V:=hd.fl
  refine⟨k.farR t (λi m=>⟨λz=>?_,λz=>?_,λz=>?_,λz=>?_⟩) (λi m z=>?_),⟨rfl,rfl⟩,hd.far t I,⟨t.blk hq.1 (λm=>by have:=I _ m;have:=hq.2.1;omega),hq.2⟩,hl⟩
  .have:=I i m;have:=hl i (.inl z);omega
  .have:=I i m;have:=hl i (.inr (.inl z));omega
  .have:=I i m;have:=hl i (.inr (.inr (.inl z)));omega
  .have:=I i m;have:=hl i (.inr (.inr (.inr z)));omega
  .have:=I i m;have:=V i z;omega
 cS:=fun(b:RwB) w a g lb (st:Nu) N i h hk hN hi=>by
  unfold lkB at hN
  obtain⟨k,⟨rfl,rfl⟩,hd,hq,hl⟩:=h
  refine(om .rw hd.c1 hd.c2 hi (R:=λr w'=>r=dB (sv st.U i) (sv (F.step c (ac P).length st i).U i)/\aw F.ty b.B b.BC w' b.a b.g b.X c P T (F.step c (ac P).length st i).st (F.step c (ac P).length st i).d (F.step c (ac P).length st i).U/\aa (SmS b.a b.g b.X) w w') λW bw=>?_).mono ?_
  .refine(H.cS _ _ _ _ _ _ _ _ _ i (k.below bw) hk.1 ahp (by have:=hk.2;omega) (hq.1.below bw hq.1.lt) hi).mono ?_
   exact abl
  .exact ab0
 cA:=fun(b:RwB) w a g lb (st:Nu) N i r h hk hN hi=>by
  obtain⟨k,⟨rfl,rfl⟩,hd,hq,hl⟩:=h
  refine(Dz hd.c1 hd.c2 hi r (R:=λq w'=>q=decide ((sv st.U i).pc=0/\(r=true->(true:Bool)=true))/\aw F.ty b.B b.BC w' b.a b.g b.X c P T (F.ask c st i r).st (F.ask c st i r).d (F.ask c st i r).U/\aa (SmS b.a b.g b.X) w w') (λW bw=>?_)).mono ?_
  .refine(H.cA _ _ _ _ _ _ _ _ i r (k.below bw) (hq.1.below bw hq.1.lt) hi).mono ?_
   exact abn
  .exact ab0
 cL:=fun(b:RwB) w a g lb (st:Nu) N i h hk hN hi=>by
  obtain⟨k,⟨rfl,rfl⟩,hd,hq,hl⟩:=h
  refine(kH .rw hd.c1 hd.c2 hi (R:=λq w'=>q=decide ((sv st.U i).pc=10)/\aw F.ty b.B b.BC w' b.a b.g b.X c P T (aK st i).st (aK st i).d (aK st i).U/\aa (SmS b.a b.g b.X) w w') λW bw=>?_).mono ?_
  .refine(H.cL _ _ _ _ _ _ _ _ i (k.below bw) (hq.1.below bw hq.1.lt) hi (λe=>(H.link _ _ hk.1 i hi).2 ahp)).mono ?_
   exact abl
  .exact ab0
 cP:=fun(b:RwB) w a g lb (st:Nu) i h hi=>oj .rw h.2.2.1.c1 h.2.2.1.c2 hi _ λW bw=>H.cP _ _ _ _ _ _ _ _ i (h.1.below bw) (h.2.2.2.1.1.below bw h.2.2.2.1.1.lt) hi
 cC:=fun(b:RwB) w a g lb (st:Nu) i h hi=>oe .rw h.2.2.1.c1 h.2.2.1.c2 hi _ λW bw=>H.cP _ _ _ _ _ _ _ _ i (h.1.below bw) (h.2.2.2.1.1.below bw h.2.2.2.1.1.lt) hi
end
section
open Go.RowKit
structure SmB(B BC:Nat->Prop)(w0 w:World)(a g:Nat)(X:SmX)(c:CoC)(P T:List Int)(st:Co)(d:Dr)(U:List Sp)(bx:Nat):Prop where
 is:aw 330 B BC w a g X c P T st d U
 bk:Blk w bx 274 #[↑X.l]
 nS:bx∉SmS a g X
 tn:aa (SmS a g X) w0 w
section
variable{B BC:Nat->Prop}{w:World}{a g bx:Nat}{X:SmX}{c:CoC}{st C':Co}{d d':Dr}{U:List Sp}{s':Ar}
def aw.lts(h:aw 330 B BC w a g X c P T st d U):∀r∈SmS a g X,r<w.heap.size:=by exact ab6
def SmB.to(h:SmB B BC w0 w a g X c P T st d U bx)(k:aw 330 B BC w' a g X c P T C' d' U)(t:aa (SmS a g X) w w'):SmB B BC w0 w' a g X c P T C' d' U bx:=⟨k,t.blk h.bk h.nS,h.nS,h.tn.trans t⟩
def SmB.drew(h:SmB B BC w0 w a g X c P T st d U bx):SmB B BC w0 w.drew a g X c P T st d U bx:=h.to (h.is.below (Below.refl _ _).drew) (aa.refl _ _).drew
def SmB.new(h:aw 330 B BC w a g X c P T st d U):SmB B BC w (w.alloc (cells #[↑X.l] 274)) a g X c P T st d U w.heap.size:=
 ⟨h.below ((Below.refl _ _).alloc (Nat.le_refl _) _),Blk.new w _ _,λk=>by have:=h.lts _ k;omega,(aa.refl _ _).alloc _⟩
def SmB.cs(h:SmB B BC w0 w a g X c P T st d U bx):w.cell? bx=some ↑X.l/\w.cell? X.l=some ↑a/\Z w X.l 1 ↑X.b/\Z w X.l 3 ↑X.dd/\Z w X.l 4 (J (2*((ac P).length:Int)+1)):=⟨h.bk.cell 0,h.is.cs.1,h.is.cs.2.1,h.is.cs.2.2.2.1,h.is.cs.2.2.2.2.1⟩
def SmB.ag(h:SmB B BC w0 w a g X c P T st d U bx)(t:aa [a,g] w w')(H:aB w' a g s'):SmB B BC w0 w' a g X c P T (onA st s') d U bx:=h.to (h.is.arT t H) (ff t)
def SmB.gd(h:SmB B BC w0 w a g X c P T st d U bx)(t:aa [a,g,X.dd] w w')(k:GD w' a g X.gg X.dd (ac P).length s' d'):SmB B BC w0 w' a g X c P T (onA st s') d' U bx:=h.to (h.is.gdT t k) (jm t)
def SmB.co(h:SmB B BC w0 w a g X c P T st d U bx)(t:aa (CoS a g X.x) w w')(k:aD BC w' a g X.x c P T C'):SmB B BC w0 w' a g X c P T C' d U bx:=h.to (h.is.coT t k) (gZ t)
def aw.node(h:aw 330 B BC w a g X c P T st d U)(hn:n<T.length):(c.node n)<(ac P).length/\(ao P T T.length)[n]? =some ((c.node n:Nat):Int):=by exact ab7
def E4(h:SmB B BC w0 w a g X c P T st d U bx)(v:Int)(Y:st.s.ops+1<=1000000000000):E 370 #[J v,↑bx] w λe w'=>e= returned (tuple #[])/\SmB B BC w0 w' a g X c P T (onA st (ae st.s (nuFl (ac P).length) v)) d U bx:=by
 have O:=qh (λW (k:SmB B BC w0 W a g X c P T st d U bx)=>an k.is.gd.ar (2*((ac P).length:Int)+1) v Y);have N1:=qh h.drew;clear h;go_enter func370,ntmps370;go_wp2_with fail
 go_region_held3 (λW=>W.cell? bx=some ↑X.l/\W.cell? X.l=some ↑a/\Z W X.l 4 (J (2*((ac P).length:Int)+1)))
  (first|exact⟨N1.o.cs.1,N1.o.cs.2.1,N1.o.cs.2.2.2.2⟩|exact⟨H.o.cs.1,H.o.cs.2.1,H.o.cs.2.2.2.2⟩)
  (first
   |(go_at_call 177;go_loud (refine Pi (O.o _ N1.o) λw3 I=>?_);have H:=qh (N1.o.ag I.o.2 I.o.1)))
 go_wp2;go_end0;exact⟨rfl,H.o⟩
def ut(B BC:Nat->Prop)(w:World)(a g:Nat)(X:SmX)(c:CoC)(P T:List Int)(r:Co×Dr×Bool)(U:List Sp)(e:Ending)(w':World):Prop:=
 e= returned (.bool r.2.2)/\aw 330 B BC w' a g X c P T r.1 r.2.1 U/\aa (SmS a g X) w w'
def Hf{r:Bool}{pc:Int}{h:Co}{d0:Dr}(k:SmB B BC w w' a g X c P T C' d' U bx)(H:iw c (ac P).length ⟨h,d0,U⟩ n pc=(C',d',r)):ut B BC w a g X c P T (iw c (ac P).length ⟨h,d0,U⟩ n pc) U (returned (.bool r)) w':=by rw[H];exact⟨rfl,k.is,k.tn⟩
def xe(h:Q:=by
    go_wp2
    go_ret
    exact Hf N3.o (by first|rfl|(rw[HQ.o];rfl))):Q:=h
def Hd(h:Q:=by
    have l5:=N2.o.is.cs.2.2.2.2.2.1
    have l0:=N2.o.bk.cell 0
    go_wp2_with fail
    refine Pi (HL.o _ N2.o) λw3 k3=>?_
    have N3:=qh (N2.o.co k3.o.2 k3.o.1)
    exact xe):Q:=h
def DC(h:Q:=by
    go_wp2_with fail
    refine Pi (HG.o _ N0.o) λw2 a2=>?_
    have N3:=qh (N0.o.ag a2.o.2 a2.o.1)
    have N2:=N3
    first
      | exact Hd
      | exact xe):Q:=h
def He(h:Q:=by
    go_wp2_with fail
    refine(HL.o _ N0.o).mono ?_
    rintro en w4 ⟨rfl,k4,t4⟩
    first
      | have N3:=qh (N0.o.co t4 k4)
      | have N3:=qh (N0.o.gd t4 k4)
    clear k4 t4
    exact xe):Q:=h
def FC(h:aw 330 B BC w a g X c P T st d U)(n:Nat)(hn:n<T.length)(pc:Int)(JU:(sv U n).pc=pc)(Y:st.s.ops+1<=1000000000000)(hN:1<=(ac P).length)(I:pc=9->d.busy=true->d.at_<(ac P).length)(C:df BB X.x c st)(Kf:pc=1\/pc=11\/pc=3\/pc=5\/pc=12\/pc=8\/pc=9\/pc=4\/pc=6\/pc=7\/pc=13):E 368 #[↑X.l,J n] w (ut B BC w a g X c P T (iw c (ac P).length ⟨st,d,U⟩ n pc) U):=by
 have hp:=h.thr hn;obtain⟨O,J8⟩:=h.node hn;have hx:=h.nT;have N0:=qh (SmB.new h);have Me:=qh (jN (w.alloc (cells #[↑X.l] 274)) X.b P T n hn N0.o.is.tb.f _ J8);have t2:¬(n:Int)<0:=by omega
 have hl:=h.lk.lt;have hq:=h.sp.lt;have J':n<X.x.n:=by rw[hx.1];exact hn
 obtain⟨p,i'⟩:=LE (sv U n);rw[<-i']at hp JU;obtain⟨pc,u,b,z⟩:=p;simp only at JU;subst JU;have a0:=aaa (N0.o.is.sp.cell hp 0 _ rfl);have d2:=N0.o.is.cs.2.2.1;have d3:=N0.o.is.cs.2.2.2.1;have d5:=N0.o.is.cs.2.2.2.2.2.1;have d6:=N0.o.is.cs.2.2.2.2.2.2;have HA:=qh (show 2*((c.node n:Nat):Int)+1=gaA (c.node n)/\2*((c.node n:Nat):Int)+1+1=gaW (c.node n)by unfold gaA gaW;omega);have GE:=λW (k:SmB B BC w W a g X c P T (st) d U w.heap.size)=>qS k.is.gd.ga k.is.gd.ar (c.node n) O k.is.gd.n32 Y;have GX:=λW (k:SmB B BC w W a g X c P T (st) d U w.heap.size)=>qT k.is.gd.ga k.is.gd.ar (c.node n) O k.is.gd.n32 Y;simp only[HA.o.1,HA.o.2]at GE GX;have HH:=qh (And.intro GE GX);clear h hp i' J8 O GE GX HA;go_enter func368,ntmps368;have e1:=N0.o.cs;go_wp2_with fail;refine LT Me.o ?_;clear Me;rcases Kf with rfl|rfl|rfl|rfl|rfl|rfl|rfl|rfl|rfl|rfl|rfl
 .have HG:=qh HH.o.1;exact DC
 .have HG:=qh HH.o.2;exact DC
 .have HG:=qh HH.o.2;have HL:=qh (λW (k:SmB B BC w W a g X c P T (onA st (addA st.s (gaW (c.node n)) 1)) d U w.heap.size)=>sf k.is.co n J');exact DC
 .have HG:=qh HH.o.1;have HL:=qh (λW (k:SmB B BC w W a g X c P T (onA st (addA st.s (gaA (c.node n)) 1)) d U w.heap.size)=>kZ k.is.co n J');exact DC
 .have HG:=qh (λW (k:SmB B BC w W a g X c P T (st) d U w.heap.size)=>E4 k 0 Y);have HL:=qh (λW (k:SmB B BC w W a g X c P T (onA st (ae st.s (nuFl (ac P).length) 0)) d U w.heap.size)=>kZ k.is.co n J');go_wp2_with fail;refine Pi (HG.o _ N0.o) λw2 N2=>?_;exact Hd
 .have HG:=qh (λW (k:SmB B BC w W a g X c P T (st) d U w.heap.size)=>E4 k 1 Y);have HL:=qh (λW (k:SmB B BC w W a g X c P T (onA st (ae st.s (nuFl (ac P).length) 1)) d U w.heap.size)=>mZ k.is.gd hN false);have Oc:=qh (λW (k:SmB B BC w W a g X c P T (onA st (ae st.s (nuFl (ac P).length) 1)) d U w.heap.size)=>lp W X.b P T k.is.tb.f);go_wp2_with fail;refine Pi (HG.o _ N0.o) λw2 N2=>?_;have PL:=qh N2.o.drew;go_wp2_with fail
  go_region_held3 (λW=>W.cell? w.heap.size=some ↑X.l/\Z W X.l 1 ↑X.b/\Z W X.l 3 ↑X.dd)
   (first|exact⟨PL.o.cs.1,PL.o.cs.2.2.1,PL.o.cs.2.2.2.1⟩|exact⟨N3.o.cs.1,N3.o.cs.2.2.1,N3.o.cs.2.2.2.1⟩)
   (first
    |(go_at_call 137;go_loud (refine LT (Oc.o _ PL.o) ?_))
    |(go_at_call 373;go_loud (refine Pi (HL.o _ PL.o) λw4 k4=>?_);have N3:=qh (PL.o.gd k4.o.2 k4.o.1)))
  exact xe
 .have H:=λW (k:SmB B BC w W a g X c P T (st) d U w.heap.size)=>m6 k.is.gd (I rfl) Y;obtain⟨r,V⟩:=LE (aj st.s d);rw[<-V]at H;have HL:=qh H;have HQ:=qh V;clear V H;exact He
 all_goals have H:=λW (k:SmB B BC w W a g X c P T (st) d U w.heap.size)=>mz k.is.co C n J';obtain⟨q,Ou⟩:=LE (bo (sv st.T n) (sv (am c st n).T n));rw[<-Ou]at H;have HL:=qh H;have HQ:=qh Ou;clear Ou H;exact He
end
end
section
open Go.RowKit
def Gb(w:World)(pc:Int)(h:pc=1\/pc=3\/pc=4\/pc=5\/pc=6\/pc=7\/pc=8\/pc=9\/pc=11\/pc=12\/pc=13):E 369 #[J pc] w λe w'=>e= returned (J (vF pc))/\w=w':=by
 rcases h with rfl|rfl|rfl|rfl|rfl|rfl|rfl|rfl|rfl|rfl|rfl
 all_goals go_enter func369,ntmps369;go_wp2;go_ret;exact⟨rfl,rfl⟩
section
variable{B BC:Nat->Prop}{w:World}{a g:Nat}{X:SmX}{c:CoC}{st C':Co}{d d':Dr}{U:List Sp}{s':Ar}
def xK(h:aw 330 B BC w a g X c P T st d U)(n:Nat)(hn:n<T.length)(hc:(sv U n).pc=0\/(sv U n).pc=10):E 365 #[↑X.l,J n] w (av 330 B BC w a g X c P T U n (cI c (ac P).length ⟨st,d,U⟩ n)):=by
 have Kh:=aO;have O:=pp h n;have Y:=h.thr hn;have hg:getS U (n:Int)=sv U n:=by exact abS
 rw[hg]at O;refine ajj ?_;intro H t2 My x' p i' mT;rw[if_pos hc]at mT;rw[<-i']at hc O Y;have V:=qh O;have HX:=qh mT;clear h Y i' mT hg O;obtain⟨pc,u,b,z⟩:=p;simp only at hc;unfold aC at V;rcases hc with rfl|rfl
 all_goals go_enter func365,ntmps365;go_wp2_with fail;refine Pi V.o λw1 I=>?_;go_wp2;go_ret;rw[HX.o];first|exact av.stay (H.o.below I.o) (aa.of_below I.o) rfl|exact av.put HP.o (H.o.below I.o) (aa.of_below I.o) rfl ahz
def EI(h:aw 330 B BC w a g X c P T st d U)(n:Nat)(hn:n<T.length)(hc:(sv U n).pc=2)(Y:st.s.ops+1<=1000000000000):E 365 #[↑X.l,J n] w (av 330 B BC w a g X c P T U n (cI c (ac P).length ⟨st,d,U⟩ n)):=by
  have Kh:=aO;have V:=pp h n;have hp:=h.thr hn;have hg:getS U (n:Int)=sv U n:=by exact abS
  rw[hg]at V;refine ajj ?_;intro H t2 My x' p i' mT;rw[if_neg ahp,if_pos hc]at mT;rw[<-i']at hc V hp mT;have HS:=qh V;have I:=qh hp;obtain⟨pc,u,b,z⟩:=p;simp only at hc mT;subst hc;obtain⟨q,hq⟩:=LE (ldW st.s.W (nuFl (ac P).length));obtain⟨ab,hV⟩:=LE (af st.s (nuFl (ac P).length));have hv:=(λW (k:aw 330 B BC W a g X c P T st d U)=>aE k.gd.ar (nuFl (ac P).length) Y);rw[<-hq,<-hV]at hv;rw[<-hq,<-hV]at mT;have HX:=qh mT;have HC:=qh (λW st (k:aw 330 B BC W a g X c P T st d U)=>And.intro k.cs.1 k.cs.2.2.2.2.1);have HO:=qh hv;clear h hp i' mT hg V hq hV hv;unfold aC at HS;cases hz:(q==0)
  all_goals
    go_enter func365,ntmps365;go_wp2_with fail;refine Pi HS.o λw1 b1=>?_;have K0:=qh (H.o.below b1.o);have K1:=qh (H.o.below b1.o.drew);have T1:=qh (aa.of_below (S:=SmS a g X) b1.o.drew);have d6:=K0.o.cs.2.2.2.2.2.2;go_wp2_with fail;first
    | (go_region_held3 (λW=>W.cell? X.l=some ↑a/\Z W X.l 4 (J (2*((ac P).length:Int)+1)))
        (first|exact HC.o _ _ K1.o|exact HC.o _ _ O.o)
        (first
          | (go_at_call 173;go_loud (refine Pi (HO.o _ K1.o) λw3 a3=>?_);have O:=qh (K1.o.arT a3.o.2 a3.o.1);have T2:=qh (T1.o.trans (ff a3.o.2)))))
    | fail "held"
  all_goals
    have e0:=aaa (O.o.sp.cell I.o 0 _ rfl);have z0:=O.o.sp.free (n*4)
    first
      | (have K3:=qh (O.o.put0 I.o (p':=(⟨10,u,b,z⟩:Sp)) (u:= J 10) rfl)
         go_wp2
         go_ret
         rw[HX.o,if_pos ahR]
         exact av.put I.o K3.o (T2.o.trans (dZ _ _)) rfl (by first|rfl|decide))
      | (have K3:=qh (O.o.put0 I.o (p':=(⟨3,u,b,z⟩:Sp)) (u:= J 3) rfl)
         go_wp2
         go_ret
         rw[HX.o,if_neg ahR]
         exact av.put I.o K3.o (T2.o.trans (dZ _ _)) rfl (by first|rfl|decide))
def EJ(h:aw 330 B BC w a g X c P T st d U)(n:Nat)(hn:n<T.length)(pc u b z:Int)(hU:sv U n=⟨pc,u,b,z⟩)(hc:pc=1\/pc=3\/pc=4\/pc=5\/pc=6\/pc=7\/pc=8\/pc=9\/pc=11\/pc=12\/pc=13)(hD:∀W,aw 330 B BC W a g X c P T st d U->E 368 #[↑X.l,J n] W (ut B BC W a g X c P T (iw c (ac P).length ⟨st,d,U⟩ n pc) U)):E 365 #[↑X.l,J n] w (av 330 B BC w a g X c P T U n (cI c (ac P).length ⟨st,d,U⟩ n)):=by
  have Kh:=aO;have I':=pp h n;have hp:=h.thr hn;have hg:getS U (n:Int)=sv U n:=by exact abS
  rw[hg]at I';refine ajj ?_;intro H t2 My x' p i' mT;have O:p=⟨pc,u,b,z⟩:=by rw[i',hU]
  subst O;rw[<-i',if_neg (show ¬(pc=0\/pc=10)by omega),if_neg (show ¬pc=2 by omega)]at mT;rw[<-i']at I' hp;have u0:(pc==0)=false:=by simp;omega
  have u1:(pc==10)=false:=by simp;omega
  have u2:(pc==2)=false:=by simp;omega
  have Pe:=qh (λW=>Gb W pc hc);obtain⟨r,V⟩:=LE (iw c (ac P).length ⟨st,d,U⟩ n pc);rw[<-V]at hD mT;obtain⟨s1,d1,q⟩:=r;obtain⟨v,Uz⟩:=LE (vF pc);rw[<-Uz]at Pe;unfold nuTo at mT;simp only at mT;rw[<-Uz]at mT;have HX:=qh mT;have HS:=qh I';have I:=qh hp;have HD:=qh hD;clear h hp i' mT hg I' hD V Uz hU hc;unfold aC at HS;cases q;. skip;go_enter func365,ntmps365;go_wp2_with fail;refine ajJ ?_;intro w1 b1 K1 T1 K0;have d6:=K0.o.cs.2.2.2.2.2.2;go_wp2_with fail;refine wp_region_held_drew (S:=(λ_=>True)) ahs (by exact trivial) (λhHeld=>?_);refine aiW ?_;refine tk 9 ?_;refine aj1 ?_;refine tk 14 ?_;refine wpAnyH_done ahs ?_ _;go_wp2_with fail;refine Pi (HD.o _ K1.o) λw3 k3=>?_;have Y:=qh k3.o.1;have T3:=qh (T1.o.trans k3.o.2);go_wp2;go_ret;rw[HX.o];refine av.put I.o (p':=⟨pc,u,b,z⟩) ?_ T3.o rfl (ic _);have k:=Y.o;rw[<-cf I.o]at k;exact k
  . cases v1:(v==10)<;>cases v2:(v==0);all_goals go_enter func365,ntmps365;go_wp2_with fail;refine ajJ ?_;intro w1 b1 K1 T1 K0;have d6:=K0.o.cs.2.2.2.2.2.2;go_wp2_with fail;refine wp_region_held_drew (S:=(λ_=>True)) ahs (by exact trivial) (λhHeld=>?_);refine aiW ?_;refine tk 9 ?_;refine aj1 ?_;refine tk 14 ?_;refine wpAnyH_done ahs ?_ _;go_wp2_with fail;refine Pi (HD.o _ K1.o) λw3 k3=>?_;have Y:=qh k3.o.1;have T3:=qh (T1.o.trans k3.o.2);have e0:=aaa (Y.o.sp.cell I.o 0 _ rfl);have z0:=Y.o.sp.free (n*4);have K4:=qh (Y.o.put0 I.o (p':=(⟨v,u,b,z⟩:Sp)) (u:= J v) rfl);go_wp2_with fail;refine LT (Pe.o _) ?_;go_wp2;go_ret;rw[HX.o];first|exact av.stay (K4.o) (T3.o.trans (dZ _ _)) rfl|exact av.put I.o (K4.o) (T3.o.trans (dZ _ _)) rfl ahz
def EF(h:aw 330 B BC w a g X c P T st d U)(n:Nat)(V:n<T.length)(hc:gV (sv U n) (sv st.T n))(Y:st.s.ops+1<=1000000000000)(hN:1<=(ac P).length)(I:(sv U n).pc=9->d.busy=true->d.at_<(ac P).length)(C:df BB X.x c st):E 365 #[↑X.l,J n] w (av 330 B BC w a g X c P T U n (cI c (ac P).length ⟨st,d,U⟩ n)):=by
  obtain⟨p,i'⟩:=LE (sv U n)
  have Kf:p.pc=0\/p.pc=10\/p.pc=2\/p.pc=1\/p.pc=3\/p.pc=4\/p.pc=5\/p.pc=6\/p.pc=7\/p.pc=8\/p.pc=9\/p.pc=11\/p.pc=12\/p.pc=13:=by
    rw[<-i']at hc;unfold gV at hc;rcases hc with⟨q1,_⟩|⟨_,H,_⟩|⟨_,H,_⟩|⟨_,H,_⟩|⟨_,H,_⟩|⟨_,H,_⟩|⟨_,H,_⟩|⟨_,H,_⟩
    all_goals omega
  obtain⟨pc,u,b,z⟩:=p;have O:(sv U n).pc=pc:=by rw[<-i']
  simp only at Kf;rcases Kf with rfl|rfl|rfl|rfl|rfl|rfl|rfl|rfl|rfl|rfl|rfl|rfl|rfl|rfl
  . exact xK h n V (.inl O)
  . exact xK h n V (.inr O)
  . exact EI h n V O Y
  all_goals exact EJ h n V _ u b z i'.symm ahr (λW k=>FC k n V _ O Y hN (λe=>I (O.trans e)) C ahr)
end
end
section
open Go
variable{p':Sp}{s':Ar}
def fI(c:CoC)(N:Nat)(x:Nu)(i:Nat)(p:Sp):Co×Dr×Int:=
 if p.a=1 then
  if p.pc=1 then(onA x.st (addA x.st.s (gaA (c.node i)) 1),x.d,2)
  else if p.pc=2 then(onA x.st (af x.st.s (nuFl N)),x.d,if ldW x.st.s.W (nuFl N)=0 then 10 else 2)
  else(onA x.st (addA x.st.s (gaW (c.node i)) 1),x.d,0)
 else if p.pc=7 then(am c x.st i,x.d,if bo (sv x.st.T i) (sv (am c x.st i).T i)then 8 else 7)
 else if p.pc=12 then(aA (onA x.st (ae x.st.s (nuFl N) 0)) i,x.d,13)
 else if p.pc=13 then(am c x.st i,x.d,if bo (sv x.st.T i) (sv (am c x.st i).T i)then 0 else 13)
 else if p.pc=5 then(onA x.st (ae x.st.s (nuFl N) 0),dS x.d N false,6)
 else if p.pc=8 then(onA x.st (ae x.st.s (nuFl N) 1),dS x.d N true,9)
 else(onA x.st (aj x.st.s x.d).1,(aj x.st.s x.d).2.1,if (aj x.st.s x.d).2.2=false then p.pc else if p.pc=6 then 8 else if (aj x.st.s x.d).2.1.clear=true then 10 else 5)
def be(c:CoC)(N:Nat)(x:Nu)(i:Nat):Nu:=
 if (sv x.U i).pc=0\/(sv x.U i).pc=10 then x
 else⟨(fI c N x i (sv x.U i)).1,(fI c N x i (sv x.U i)).2.1,x.U.set i {(sv x.U i)with pc:=(fI c N x i (sv x.U i)).2.2}⟩
def fo(p:Sp):Bool:=decide (p.a=1/\(p.pc=2\/p.pc=10\/p.pc=11))
def dE(p:Sp):Prop:=p.a=1/\(p.pc=10\/p.pc=11)
def gD(p:Sp):Prop:=p.a=0/\(p.pc=5\/p.pc=9\/p.pc=10\/p.pc=12)
def iO(p t:Sp):Prop:=
 (p.pc=0/\t.pc=0)\/(p.a=1/\(p.pc=1\/p.pc=2\/p.pc=10\/p.pc=11)/\t.pc=0)\/
  (p.a=0/\p.pc=7/\0<t.pc/\t.pc<10)\/(p.a=0/\(p.pc=5\/p.pc=6\/p.pc=8\/p.pc=9\/p.pc=10\/p.pc=12)/\t.pc=10)\/(p.a=0/\p.pc=13/\10<t.pc)
def gQ(c:CoC)(n:Nat)(U:List Sp)(a:Nat):Nat:=jd n (λj=>decide (c.node j=a)&&fo (sv U j))
def zM(c:CoC)(n N:Nat)(d:Dr)(W:List Int)(U:List Sp):Prop:=
 (d.busy=true/\d.once=true/\d.at_<N/\d.lim=N)/\(d.second=true->d.o<=ldW W (gaW d.at_))/\∀j,j<n->dE (sv U j)->d.at_<=c.node j
structure RsI(c:CoC)(n N:Nat)(ml:Nat->Nat)(x:Nu):Prop where
 m:CoM c n N ml x.st
 lU:x.U.length=n
 k:∀i,i<n->iO (sv x.U i) (sv x.st.T i)
 g:∀a,a<N->ldW x.st.s.W (gaA a)=ldW x.st.s.W (gaW a)+(gQ c n x.U a:Int)
 fl:∀i,i<n->gD (sv x.U i)->ldW x.st.s.W (nuFl N)≠0
 dr:∀i,i<n->(sv x.U i).a=0->(sv x.U i).pc=9->zM c n N x.d x.st.s.W x.U
 hd:∀i,i<n->(sv x.U i).a=0->(sv x.U i).pc=10->∀j,j<n->¬dE (sv x.U j)
section
variable{c:CoC}{x x':Nu}
def RsI.safe(h:RsI c n N ml x)(y:cD c n N ml){i:Nat}(hi:i<n)(h1:(sv x.U i).pc=10)(H:(sv x.U i).a=0)(hj:j<n)(I:(sv x.U j).pc=10):j=i/\(sv x.U j).a=0:=by
 have ki:=h.k i hi;have V:=h.k j hj;by_cases O:(sv x.U j).a=1;.exact absurd ⟨O,.inl I⟩ (h.hd i hi H h1 j hj)
 .have t1:(sv x.st.T i).pc=10:=by unfold iO at ki;omega
  have t2:(sv x.st.T j).pc=10/\(sv x.U j).a=0:=by unfold iO at V;omega
  exact abL
def RsI.one(h:RsI c n N ml x)(y:cD c n N ml){i:Nat}(hi:i<n)(H:j<n)(h1:(sv x.st.T i).pc=10)(I:(sv x.st.T j).pc=10):i=j:=h.m.one y hi H ahp ahp
def Jm{p t:Sp}(h:iO p t)(hw:gD p):t.pc=10:=by unfold iO at h;unfold gD at hw;omega
def lY{U:List Sp}{i:Nat}(h:i<U.length)(hi:i<n)(p:Sp)(a:Nat):gQ c n (U.set i p) a+(if c.node i=a/\fo (sv U i)=true then 1 else 0)=gQ c n U a+(if c.node i=a/\fo p=true then 1 else 0):=by unfold gQ;have:=jA (P:=λj=>decide (c.node j=a)&&fo (sv U j)) (Q:=λj=>decide (c.node j=a)&&fo (sv (U.set i p) j)) (i:=i) (λj H=>by rw[svS h,if_neg H]) n hi;simp only[Bool.and_eq_true,decide_eq_true_eq]at this;rw[svS h,if_pos rfl]at this;exact this
def RsI.upd(h:RsI c n N ml x){i:Nat}(hi:i<n){O:Co}{d':Dr}(hm:CoM c n N ml O)(hT:∀j,j≠i->sv O.T j=sv x.st.T j)(hk:iO p' (sv O.T i))(hg:∀a,a<N->ldW O.s.W (gaA a)=ldW O.s.W (gaW a)+(gQ c n (x.U.set i p') a:Int))(ML:∀j,j<n->j≠i->gD (sv x.U j)->ldW O.s.W (nuFl N)≠0)(TV:gD p'->ldW O.s.W (nuFl N)≠0)(hH:∀a,a<N->ldW x.st.s.W (gaW a)<=ldW O.s.W (gaW a))(Mb:dE p'->dE (sv x.U i)\/∀j,j<n->j≠i->¬gD (sv x.U j))(hd:∀j,j<n->j≠i->(sv x.U j).a=0->(sv x.U j).pc=9->d'=x.d)(od:p'.a=0->p'.pc=9->zM c n N d' O.s.W (x.U.set i p'))(oh:p'.a=0->p'.pc=10->∀j,j<n->j≠i->¬dE (sv x.U j)):RsI c n N ml ⟨O,d',x.U.set i p'⟩:=by
  refine aj7 ?_;intro hl;have hs:=svS hl p';refine⟨hm,by rw[List.length_set];exact h.lU,λj Y=>?_,hg,λj Y hw=>?_,λj Y h0 h9=>?_,λj Y h0 h10=>?_⟩
  . show iO (sv (x.U.set i p') j) (sv O.T j);rw[hs];split;. rename_i e;rw[e];exact hk
    . rename_i e;rw[hT j e];exact h.k j Y
  . have LP:gD (sv (x.U.set i p') j):=hw;rw[hs]at LP;split at LP;. exact TV LP
    . rename_i e;exact ML j Y e LP
  . have I:(sv (x.U.set i p') j).a=0:=h0;have H:(sv (x.U.set i p') j).pc=9:=h9;rw[hs]at I H;by_cases e:j=i;. rw[if_pos e]at I H;exact od I H
    . rw[if_neg e]at I H;obtain⟨q1,q2,q3⟩:=h.dr j Y I H;show zM c n N d' O.s.W (x.U.set i p');rw[hd j Y e I H];refine⟨q1,λhq=>Int.le_trans (q2 hq) (hH _ q1.2.2.1),λk hk V=>?_⟩;rw[hs]at V;split at V
      . rename_i e2;rcases Mb V with h1|h1
        . rw[e2];exact q3 i hi h1
        . exact absurd ⟨I,.inr (.inl H)⟩ (h1 j Y e)
      . exact q3 k hk V
  . have I:(sv (x.U.set i p') j).a=0:=h0;have H:(sv (x.U.set i p') j).pc=10:=h10;rw[hs]at I H;intro k hk V;have KQ:dE (sv (x.U.set i p') k):=V;rw[hs]at KQ;by_cases e:j=i
    . rw[if_pos e]at I H;split at KQ;. unfold dE at KQ;omega
      . rename_i e2;exact oh I H k hk e2 KQ
    . rw[if_neg e]at I H;split at KQ
      . rcases Mb KQ with h1|h1
        . exact h.hd j Y I H i hi h1
        . exact h1 j Y e ⟨I,.inr (.inr (.inl H))⟩
      . exact h.hd j Y I H k hk KQ
def re(h:RsI c n N ml x)(y:cD c n N ml)(l:NuL c N x.st.s.W)(hz:1<=z/\z<=nuFl N)(v:Int)(e:s'.W=stW x.st.s.W z v):(∀q,ldW s'.W q=if q=z then v else ldW x.st.s.W q)/\CoM c n N ml (onA x.st s'):=by exact abM
def nt(h:RsI c n N ml x)(y:cD c n N ml)(e:s'.W=x.st.s.W):CoM c n N ml (onA x.st s'):=
 h.m.low y (by rw[e]) (λq _=>by rw[e]) (h.m.v.ars s')
def Ds(h:RsI c n N ml x){i:Nat}(hi:i<n)(I:fo p'=fo (sv x.U i))(a:Nat):gQ c n (x.U.set i p') a=gQ c n x.U a:=by have:=lY (c:=c) (n:=n) (show i<x.U.length by rw[h.lU];exact hi) hi p' a;rw[I]at this;omega
def dH(h:RsI c n N ml x){i:Nat}(hi:i<n)(I:fo p'=fo (sv x.U i))(hw:∀q,q<nuFl N->ldW W' q=ldW x.st.s.W q):∀a,a<N->ldW W' (gaA a)=ldW W' (gaW a)+(gQ c n (x.U.set i p') a:Int):=λa H=>by
 rw[hw _ (eM H).2,hw _ (bG H).2,Ds h hi I a];exact h.g a H
def Hk(h:RsI c n N ml x)(hn:∀j,j<n->c.node j<N){i:Nat}(hi:i<n)(h0:fo (sv x.U i)=false)(h1:fo p'=true)(hw:∀q,ldW W' q=if q=gaA (c.node i)then ldW x.st.s.W (gaA (c.node i))+1 else ldW x.st.s.W q):∀a,a<N->ldW W' (gaA a)=ldW W' (gaW a)+(gQ c n (x.U.set i p') a:Int):=λa ha=>by
 have h2:=lY (c:=c) (n:=n) (show i<x.U.length by rw[h.lU];exact hi) hi p' a
 exact abN
def FN(h:RsI c n N ml x)(hn:∀j,j<n->c.node j<N){i:Nat}(hi:i<n)(h0:fo (sv x.U i)=true)(h1:fo p'=false)(hw:∀q,ldW W' q=if q=gaW (c.node i)then ldW x.st.s.W (gaW (c.node i))+1 else ldW x.st.s.W q):∀a,a<N->ldW W' (gaA a)=ldW W' (gaW a)+(gQ c n (x.U.set i p') a:Int):=λa ha=>by
 have h2:=lY (c:=c) (n:=n) (show i<x.U.length by rw[h.lU];exact hi) hi p' a
 exact abO
end
end
section
open Go.RowKit
def ce(ty:TypeId)(B BC:Nat->Prop)(w:World)(a g:Nat)(X:SmX)(c:CoC)(P T:List Int)(r:Co×Dr×Int)(U:List Sp)(e:Ending)(w':World):Prop:=
 e= returned (J r.2.2)/\aw ty B BC w' a g X c P T r.1 r.2.1 U/\aa (SmS a g X) w w'
section
variable{ty:TypeId}
variable{B BC:Nat->Prop}{w:World}{a g:Nat}{X:SmX}{c:CoC}{st C':Co}{d d':Dr}{U:List Sp}{s':Ar}
def aw.ltsA(h:aw ty B BC w a g X c P T st d U):∀r∈SmS a g X,r<w.heap.size:=by exact ab6
def aw.nodeA(h:aw ty B BC w a g X c P T st d U)(hn:n<T.length):(c.node n)<(ac P).length/\(ao P T T.length)[n]? =some ((c.node n:Nat):Int):=by exact ab7
def aw.drw(h:aw ty B BC w a g X c P T st d U):aw ty B BC w.drew a g X c P T st d U:=h.below (Below.refl _ _).drew
end
section
variable{B BC:Nat->Prop}{w:World}{a g:Nat}{X:SmX}{c:CoC}{st C':Co}{d d':Dr}{U:List Sp}{s':Ar}
def Cw(h:aw 335 B BC w a g X c P T st d U)(hnd:nd<(ac P).length)(Y:st.s.ops+1<=1000000000000):E 392 #[↑X.l,J 1,J nd] w (ce 335 B BC w a g X c P T (onA st (addA st.s (2*(nd:Int)+1) 1),d,2) U):=by have hnd:=qh hnd;have H:=qh h;clear h;go_enter func392,ntmps392;exact ab9
def zf(h:aw 335 B BC w a g X c P T st d U)(hnd:nd<(ac P).length)(Y:st.s.ops+1<=1000000000000):E 392 #[↑X.l,J 11,J nd] w (ce 335 B BC w a g X c P T (onA st (addA st.s (2*(nd:Int)+1+1) 1),d,0) U):=by have hnd:=qh hnd;have H:=qh h;clear h;go_enter func392,ntmps392;exact aca
def Cy(h:aw 335 B BC w a g X c P T st d U)(nd:Nat)(Y:st.s.ops+1<=1000000000000):E 392 #[↑X.l,J 2,J nd] w (ce 335 B BC w a g X c P T (onA st (af st.s (nuFl (ac P).length)),d,if ldW st.s.W (nuFl (ac P).length)=0 then 10 else 2) U):=by
  have H:=qh h;clear h;obtain⟨q,hq⟩:=LE (ldW st.s.W (nuFl (ac P).length));rw[<-hq];have HQ:=qh hq;clear hq;have hv:=qh (aE (H.o.drw).gd.ar (nuFl (ac P).length) Y);rw[<-HQ.o]at hv;obtain⟨v,O⟩:∃v:Int,v=if q=0 then 10 else 2:=⟨_,rfl⟩
  rw[<-O];have HV:=qh O;clear O;cases hz:(q==0)
  all_goals
    go_enter func392,ntmps392;have V:=qh H.o.drw;have T0:=qh (aa.refl (SmS a g X) w);go_wp2_with fail;first
    | (go_region_held3 (λW=>W.cell? X.l=some ↑a/\Z W X.l 4 (J (2*((ac P).length:Int)+1)))
        (first|exact⟨V.o.cs.1,V.o.cs.2.2.2.2.1⟩|exact⟨I.o.cs.1,I.o.cs.2.2.2.2.1⟩)
        (first
          | (go_at_call 173;go_loud (refine Pi hv.o λw1 a3=>?_);have I:=qh (V.o.arT a3.o.2 a3.o.1);have T1:=qh (T0.o.drew.trans (ff a3.o.2)))))
    | fail "held"
  all_goals
    first
    | (go_wp2
       go_ret
       rw[HV.o,if_pos ahR]
       exact⟨rfl,I.o,T1.o⟩)
    | (go_wp2
       go_ret
       rw[HV.o,if_neg ahR]
       exact⟨rfl,I.o,T1.o⟩)
def BQ(h:aw 335 B BC w a g X c P T st d U)(hN:1<=(ac P).length)(Y:st.s.ops+1<=1000000000000):E 394 #[↑X.l,J 5] w (ce 335 B BC w a g X c P T (onA st (ae st.s (nuFl (ac P).length) 0),dS d (ac P).length false,6) U):=by
 have H:=qh h;clear h;go_enter func394,ntmps394;have V:=H;have T0:=qh (aa.refl (SmS a g X) w);have I:=qh V.o.drw;have hv:=qh (an (I.o).gd.ar (nuFl (ac P).length) (0) Y);go_wp2_with fail
 go_region_held3 (λW=>W.cell? X.l=some ↑a/\Z W X.l 4 (J (2*((ac P).length:Int)+1)))
  (first|exact⟨I.o.cs.1,I.o.cs.2.2.2.2.1⟩|exact⟨K1.o.cs.1,K1.o.cs.2.2.2.2.1⟩)
  (first
   |(go_at_call 177;go_loud (refine Pi hv.o λw1 O=>?_);have K1:=qh (I.o.arT O.o.2 O.o.1);have T1:=qh (T0.o.drew.trans (ff O.o.2))))
 exact acb
def BT(h:aw 335 B BC w a g X c P T st d U)(hN:1<=(ac P).length)(Y:st.s.ops+1<=1000000000000):E 394 #[↑X.l,J 8] w (ce 335 B BC w a g X c P T (onA st (ae st.s (nuFl (ac P).length) 1),dS d (ac P).length true,9) U):=by
 have H:=qh h;clear h;go_enter func394,ntmps394;have K0:=H;have T0:=qh (aa.refl (SmS a g X) w);have I:=qh K0.o.drw;have hv:=qh (an (I.o).gd.ar (nuFl (ac P).length) (1) Y);go_wp2_with fail
 go_region_held3 (λW=>W.cell? X.l=some ↑a/\Z W X.l 4 (J (2*((ac P).length:Int)+1)))
  (first|exact⟨I.o.cs.1,I.o.cs.2.2.2.2.1⟩|exact⟨O.o.cs.1,O.o.cs.2.2.2.2.1⟩)
  (first
   |(go_at_call 177;go_loud (refine Pi hv.o λw1 V=>?_);have O:=qh (I.o.arT V.o.2 V.o.1);have T1:=qh (T0.o.drew.trans (ff V.o.2))))
 have LJ:=qh O.o.drw;have KY:=qh (mZ (LJ.o).gd hN true);exact acc
def BS(h:aw 335 B BC w a g X c P T st d U)(I:d.busy=true->d.at_<(ac P).length)(Y:st.s.ops+1<=1000000000000):E 394 #[↑X.l,J 6] w (ce 335 B BC w a g X c P T (onA st (aj st.s d).1,(aj st.s d).2.1,if (aj st.s d).2.2=false then 6 else if (6:Int)=6 then 8 else if (aj st.s d).2.1.clear=true then 10 else 5) U):=by
 obtain⟨r,V⟩:=LE (aj st.s d);have O:=m6 h.gd I Y;rw[<-V]at O ⊢;obtain⟨s1,d1,q⟩:=r;simp only at O ⊢;have HD:=qh O;have H:=qh h;clear h V I O;cases q;.exact acd
 .exact acd
def BU(h:aw 335 B BC w a g X c P T st d U)(I:d.busy=true->d.at_<(ac P).length)(Y:st.s.ops+1<=1000000000000):E 394 #[↑X.l,J 9] w (ce 335 B BC w a g X c P T (onA st (aj st.s d).1,(aj st.s d).2.1,if (aj st.s d).2.2=false then 9 else if (9:Int)=6 then 8 else if (aj st.s d).2.1.clear=true then 10 else 5) U):=by
 obtain⟨r,V⟩:=LE (aj st.s d);have O:=m6 h.gd I Y;rw[<-V]at O ⊢;obtain⟨s1,d1,q⟩:=r;simp only at O ⊢;have HD:=qh O;have H:=qh h;clear h V I O;cases q;.exact acd
 .cases hc:d1.clear;all_goals go_enter func394,ntmps394;have d3:=H.o.cs.2.2.2.1;go_wp2_with fail;refine Pi HD.o λw1 k4=>?_;have K1:=qh (H.o.gdT k4.o.2 k4.o.1);have T1:=qh (jm (X:=X) k4.o.2);have d4:=K1.o.cs.2.2.2.1;have UV:=qh (DF K1.o.gd);rw[hc]at UV;go_wp2_with fail;refine LT UV.o ?_;go_wp2;go_ret;unfold ce;simp only[hc];exact⟨rfl,K1.o,T1.o⟩
def zF(h:aw 335 B BC w a g X c P T st d U)(n:Nat)(hn:n<T.length)(C:df BB X.x c st)(Y:st.s.ops+1<=1000000000000):E 393 #[↑X.l,J n,J 7] w (ce 335 B BC w a g X c P T (am c st n,d,if bo (sv st.T n) (sv (am c st n).T n)then 8 else 7) U):=by exact ace
def wK(h:aw 335 B BC w a g X c P T st d U)(n:Nat)(hn:n<T.length)(C:df BB X.x c st)(Y:st.s.ops+1<=1000000000000):E 393 #[↑X.l,J n,J 13] w (ce 335 B BC w a g X c P T (am c st n,d,if bo (sv st.T n) (sv (am c st n).T n)then 0 else 13) U):=by exact ace
def wJ(h:aw 335 B BC w a g X c P T st d U)(n:Nat)(hn:n<T.length)(Y:st.s.ops+1<=1000000000000):E 393 #[↑X.l,J n,J 12] w (ce 335 B BC w a g X c P T (aA (onA st (ae st.s (nuFl (ac P).length) 0)) n,d,13) U):=by
 have J':n<X.x.n:=by rw[h.nT.1];exact hn
 have H:=qh h;clear h;go_enter func393,ntmps393;have V:=H;have T0:=qh (aa.refl (SmS a g X) w);have I:=qh V.o.drw;have hv:=qh (an (I.o).gd.ar (nuFl (ac P).length) (0) Y);go_wp2_with fail
 go_region_held3 (λW=>W.cell? X.l=some ↑a/\Z W X.l 4 (J (2*((ac P).length:Int)+1)))
  (first|exact⟨I.o.cs.1,I.o.cs.2.2.2.2.1⟩|exact⟨K1.o.cs.1,K1.o.cs.2.2.2.2.1⟩)
  (first
   |(go_at_call 177;go_loud (refine Pi hv.o λw1 O=>?_);have K1:=qh (I.o.arT O.o.2 O.o.1);have T1:=qh (T0.o.drew.trans (ff O.o.2))))
 exact acf
def zD(h:aw 335 B BC w a g X c P T st d U)(hN:1<=(ac P).length)(n:Nat)(Y:st.s.ops+1<=1000000000000):E 393 #[↑X.l,J n,J 5] w (ce 335 B BC w a g X c P T (onA st (ae st.s (nuFl (ac P).length) 0),dS d (ac P).length false,6) U):=by have KT:=BQ h hN Y;obtain⟨r,V⟩:∃r:Co×Dr×Int,r=(onA st (ae st.s (nuFl (ac P).length) 0),dS d (ac P).length false,6):=⟨_,rfl⟩;exact acg
def zG(h:aw 335 B BC w a g X c P T st d U)(hN:1<=(ac P).length)(n:Nat)(Y:st.s.ops+1<=1000000000000):E 393 #[↑X.l,J n,J 8] w (ce 335 B BC w a g X c P T (onA st (ae st.s (nuFl (ac P).length) 1),dS d (ac P).length true,9) U):=by have KT:=BT h hN Y;obtain⟨r,V⟩:∃r:Co×Dr×Int,r=(onA st (ae st.s (nuFl (ac P).length) 1),dS d (ac P).length true,9):=⟨_,rfl⟩;exact acg
def zE(h:aw 335 B BC w a g X c P T st d U)(I:d.busy=true->d.at_<(ac P).length)(n:Nat)(Y:st.s.ops+1<=1000000000000):E 393 #[↑X.l,J n,J 6] w (ce 335 B BC w a g X c P T (onA st (aj st.s d).1,(aj st.s d).2.1,if (aj st.s d).2.2=false then 6 else if (6:Int)=6 then 8 else if (aj st.s d).2.1.clear=true then 10 else 5) U):=by have KT:=BS h I Y;obtain⟨r,V⟩:∃r:Co×Dr×Int,r=(onA st (aj st.s d).1,(aj st.s d).2.1,if (aj st.s d).2.2=false then 6 else if (6:Int)=6 then 8 else if (aj st.s d).2.1.clear=true then 10 else 5):=⟨_,rfl⟩;exact acg
def zH(h:aw 335 B BC w a g X c P T st d U)(I:d.busy=true->d.at_<(ac P).length)(n:Nat)(Y:st.s.ops+1<=1000000000000):E 393 #[↑X.l,J n,J 9] w (ce 335 B BC w a g X c P T (onA st (aj st.s d).1,(aj st.s d).2.1,if (aj st.s d).2.2=false then 9 else if (9:Int)=6 then 8 else if (aj st.s d).2.1.clear=true then 10 else 5) U):=by have KT:=BU h I Y;obtain⟨r,V⟩:∃r:Co×Dr×Int,r=(onA st (aj st.s d).1,(aj st.s d).2.1,if (aj st.s d).2.2=false then 9 else if (9:Int)=6 then 8 else if (aj st.s d).2.1.clear=true then 10 else 5):=⟨_,rfl⟩;exact acg
end
end
section
open Go.RowKit
section
variable{B BC:Nat->Prop}{w:World}{a g:Nat}{X:SmX}{c:CoC}{st C':Co}{d d':Dr}{U:List Sp}{s':Ar}
def xL(h:aw 335 B BC w a g X c P T st d U)(n:Nat)(hn:n<T.length)(hc:(sv U n).pc=0\/(sv U n).pc=10):E 389 #[↑X.l,J n] w (av 335 B BC w a g X c P T U n (be c (ac P).length ⟨st,d,U⟩ n)):=by
 have Kh:=aO;have O:=pr h n;have hp:=h.thr hn;have hg:getS U (n:Int)=sv U n:=by exact abS
 rw[hg]at O;have H:=qh h;refine ajP ?_;intro t2 My;have mT:be c (ac P).length ⟨st,d,U⟩ n=⟨st,d,U⟩:=by unfold be;rw[if_pos hc]
 obtain⟨p,Y⟩:=LE (sv U n);rw[<-Y]at hc O;have V:=qh O;have HX:=qh mT;clear h hp Y mT hg O;obtain⟨pc,u,b,z⟩:=p;simp only at hc;unfold aC at V;rcases hc with rfl|rfl
 all_goals go_enter func389,ntmps389;go_wp2_with fail;refine Pi V.o λw1 I=>?_;go_wp2;go_ret;rw[HX.o];first|exact av.stay ((H.o.below I.o).below ((Below.refl _ _).alloc (Nat.le_refl _) _)) ((aa.of_below I.o).alloc _) rfl|exact av.put HP.o ((H.o.below I.o).below ((Below.refl _ _).alloc (Nat.le_refl _) _)) ((aa.of_below I.o).alloc _) rfl ahz
def mB(h:aw 335 B BC w a g X c P T st d U)(n:Nat)(hn:n<T.length)(pc b z:Int)(hU:sv U n=⟨pc,1,b,z⟩)(hc:pc≠0/\pc≠10)(hD:∀W,aw 335 B BC W a g X c P T st d U->E 392 #[↑X.l,J pc,J (c.node n:Nat)] W (ce 335 B BC W a g X c P T (fI c (ac P).length ⟨st,d,U⟩ n ⟨pc,1,b,z⟩) U)):E 389 #[↑X.l,J n] w (av 335 B BC w a g X c P T U n (be c (ac P).length ⟨st,d,U⟩ n)):=by
  have Kh:=aO;have I':=pr h n;have hp:=h.thr hn;have hg:getS U (n:Int)=sv U n:=by exact abS
  rw[hg]at I';have H:=qh h;refine ajP ?_;intro t2 My;obtain⟨r,V⟩:=LE (fI c (ac P).length ⟨st,d,U⟩ n ⟨pc,1,b,z⟩);have mT:be c (ac P).length ⟨st,d,U⟩ n=⟨r.1,r.2.1,U.set n ⟨r.2.2,1,b,z⟩⟩:=by unfold be;exact ach
  rw[<-V]at hD;rw[hU]at hp I';obtain⟨s1,d1,v⟩:=r;simp only at mT;have u0:(pc==0)=false:=(by simpa using hc.1);have u1:(pc==10)=false:=(by simpa using hc.2);obtain⟨ab,J8⟩:=h.nodeA hn;obtain⟨nd,WA⟩:=LE (c.node n);rw[<-WA]at J8 ab hD;have Pd:=qh J8;have HX:=qh mT;have HS:=qh I';have HP:=qh hp;have HD:=qh hD;clear h hp mT hg I' hD V hU hc ab J8 WA;unfold aC at HS;cases v1:(v==10)<;>cases v2:(v==0)
  all_goals
    go_enter func389,ntmps389;go_wp2_with fail;refine aiX ?_;intro w1 b1 K1 T1;go_upto_region 2 with fail;obtain⟨sb,K9⟩:=LE w1.heap.size;obtain⟨O,Kt⟩:=LE (w1.alloc (cells #[J pc,J 1,J b,J z] 113));rw[<-Kt,<-K9];have Y:=qh (show aw 335 B BC O a g X c P T st d U/\aa (SmS a g X) w O/\Blk O sb 113 #[J pc,J 1,J b,J z]/\sb∉SmS a g X from⟨by rw[Kt];exact(K1.o).below ((Below.refl _ _).alloc (Nat.le_refl _) _),by rw[Kt];exact T1.o.alloc _,by rw[Kt,K9];exact Blk.new _ _ _,λk=>by have:=K1.o.ltsA _ k;omega⟩);clear Kt K9 K1 T1;have v0:O.cell? sb=some (J pc):=Y.o.2.2.1.cell 0;have va:Z O sb 1 (J 1):=Y.o.2.2.1.cell 1;have l1:Z O X.l 1 ↑X.b:=Y.o.1.cs.2.1;have LJ:=qh Y.o.1.drw;have S7:=qh (jN O.drew X.b P T n hn LJ.o.tb.f nd Pd.o);have Yb:=qh (HD.o _ LJ.o);have HC:=qh (λW (st:Co) (d:Dr) (k:aw 335 B BC W a g X c P T st d U) (I:Blk W sb 113 #[J pc,J 1,J b,J z])=>And.intro (show W.cell? sb=some (J pc)from I.cell 0) k.cs.2.1);go_wp2_with fail
    go_region_held3 (λW=>W.cell? sb=some (J pc)/\Z W X.l 1 ↑X.b)
      (first|exact⟨v0,l1⟩|exact M3.o)
      (first
        | (go_at_call 100;go_loud (refine LT S7.o ?_))
        | (go_at_call 392;go_loud (refine Pi Yb.o λw3 k3=>?_);have M3:=qh (HC.o _ _ _ k3.o.1 ((((aa.refl (SmS a g X) O).drew).trans k3.o.2).blk Y.o.2.2.1 Y.o.2.2.2));have K3:=qh k3.o.1;have T3:=qh (Y.o.2.1.drew.trans k3.o.2)))
  all_goals refine ajG ?_;intro e0 z0 d6;have K4:=qh (K3.o.put0 HP.o (p':=(⟨v,1,b,z⟩:Sp)) (u:= J v) rfl);go_wp2;go_ret;rw[HX.o];first|exact av.stay (K4.o) (T3.o.trans (dZ _ _)) rfl|exact av.put HP.o (K4.o) (T3.o.trans (dZ _ _)) rfl ahz
def fK(h:aw 335 B BC w a g X c P T st d U)(n:Nat)(hn:n<T.length)(pc b z:Int)(hU:sv U n=⟨pc,0,b,z⟩)(hc:pc≠0/\pc≠10)(hD:∀W,aw 335 B BC W a g X c P T st d U->E 393 #[↑X.l,J n,J pc] W (ce 335 B BC W a g X c P T (fI c (ac P).length ⟨st,d,U⟩ n ⟨pc,0,b,z⟩) U)):E 389 #[↑X.l,J n] w (av 335 B BC w a g X c P T U n (be c (ac P).length ⟨st,d,U⟩ n)):=by
  have Kh:=aO;have Y:=pr h n;have hp:=h.thr hn;have hg:getS U (n:Int)=sv U n:=by exact abS
  rw[hg]at Y;have H:=qh h;refine ajP ?_;intro t2 My;obtain⟨r,V⟩:=LE (fI c (ac P).length ⟨st,d,U⟩ n ⟨pc,0,b,z⟩);have mT:be c (ac P).length ⟨st,d,U⟩ n=⟨r.1,r.2.1,U.set n ⟨r.2.2,0,b,z⟩⟩:=by unfold be;exact ach
  rw[<-V]at hD;rw[hU]at hp Y;obtain⟨s1,d1,v⟩:=r;simp only at mT;have u0:(pc==0)=false:=(by simpa using hc.1);have u1:(pc==10)=false:=(by simpa using hc.2);have HX:=qh mT;have HS:=qh Y;have HP:=qh hp;have HD:=qh hD;clear h hp mT hg Y hD V hU hc;unfold aC at HS;cases v1:(v==10)<;>cases v2:(v==0);all_goals go_enter func389,ntmps389;go_wp2_with fail;refine aiX ?_;intro w1 b1 K1 T1;go_upto_region 2 with fail;obtain⟨sb,K9⟩:=LE w1.heap.size;obtain⟨O,I⟩:=LE (w1.alloc (cells #[J pc,J 0,J b,J z] 113));rw[<-I,<-K9];have Ku:=qh (show aw 335 B BC O a g X c P T st d U/\aa (SmS a g X) w O/\Blk O sb 113 #[J pc,J 0,J b,J z]/\sb∉SmS a g X from⟨by rw[I];exact(K1.o).below ((Below.refl _ _).alloc (Nat.le_refl _) _),by rw[I];exact T1.o.alloc _,by rw[I,K9];exact Blk.new _ _ _,λk=>by have:=K1.o.ltsA _ k;omega⟩);clear I K9 K1 T1;have v0:O.cell? sb=some (J pc):=Ku.o.2.2.1.cell 0;have va:Z O sb 1 (J 0):=Ku.o.2.2.1.cell 1;go_wp2_with fail;refine Pi (HD.o _ Ku.o.1) λw3 k3=>?_;have K3:=qh k3.o.1;have T3:=qh (Ku.o.2.1.trans k3.o.2)
  all_goals refine ajG ?_;intro e0 z0 d6;have K4:=qh (K3.o.put0 HP.o (p':=(⟨v,0,b,z⟩:Sp)) (u:= J v) rfl);go_wp2;go_ret;rw[HX.o];first|exact av.stay (K4.o) (T3.o.trans (dZ _ _)) rfl|exact av.put HP.o (K4.o) (T3.o.trans (dZ _ _)) rfl ahz
def EG(h:aw 335 B BC w a g X c P T st d U)(n:Nat)(H:n<T.length)(hc:iO (sv U n) (sv st.T n))(Y:st.s.ops+1<=1000000000000)(hN:1<=(ac P).length)(I:((sv U n).a=0->((sv U n).pc=9\/(sv U n).pc=6)->d.busy=true->d.at_<(ac P).length))(C:df BB X.x c st):E 389 #[↑X.l,J n] w (av 335 B BC w a g X c P T U n (be c (ac P).length ⟨st,d,U⟩ n)):=by
  obtain⟨p,O⟩:=LE (sv U n)
  have Kf:p.pc=0\/p.pc=10\/(p.a=1/\p.pc=1)\/(p.a=1/\p.pc=2)\/(p.a=1/\p.pc=11)\/(p.a=0/\p.pc=7)\/(p.a=0/\p.pc=5)\/(p.a=0/\p.pc=6)\/(p.a=0/\p.pc=8)\/(p.a=0/\p.pc=9)\/(p.a=0/\p.pc=12)\/(p.a=0/\p.pc=13):=by
    rw[<-O]at hc;unfold iO at hc;rcases hc with⟨q1,_⟩|⟨q1,q2,_⟩|⟨q1,q2,_⟩|⟨q1,q2,_⟩|⟨q1,q2,_⟩
    all_goals omega
  have V:=I;rw[<-O]at V;obtain⟨pc,u,b,z⟩:=p;have JU:(sv U n).pc=pc:=by rw[<-O]
  simp only at Kf V;have ab:=h.nodeA H;rcases Kf with rfl|rfl|⟨rfl,rfl⟩|⟨rfl,rfl⟩|⟨rfl,rfl⟩|⟨rfl,rfl⟩|⟨rfl,rfl⟩|⟨rfl,rfl⟩|⟨rfl,rfl⟩|⟨rfl,rfl⟩|⟨rfl,rfl⟩|⟨rfl,rfl⟩
  . exact xL h n H (.inl JU)
  . exact xL h n H (.inr JU)
  . exact mB h n H _ b z O.symm ahr (λW k=>Cw k ab.1 Y)
  . exact mB h n H _ b z O.symm ahr (λW k=>Cy k (c.node n) Y)
  . refine mB h n H _ b z O.symm ahr (λW k=>?_);have k9:=zf k ab.1 Y;rw[show 2*((c.node n:Nat):Int)+1+1=gaW (c.node n)by unfold gaW;omega]at k9;exact k9
  . exact fK h n H _ b z O.symm ahr (λW k=>zF k n H C Y)
  . exact fK h n H _ b z O.symm ahr (λW k=>zD k hN n Y)
  . exact fK h n H _ b z O.symm ahr (λW k=>zE k (V rfl (.inr rfl)) n Y)
  . exact fK h n H _ b z O.symm ahr (λW k=>zG k hN n Y)
  . exact fK h n H _ b z O.symm ahr (λW k=>zH k (V rfl (.inl rfl)) n Y)
  . exact fK h n H _ b z O.symm ahr (λW k=>wJ k n H Y)
  . exact fK h n H _ b z O.symm ahr (λW k=>wK k n H C Y)
end
end
section
open Go
variable{U:List Sp}{p':Sp}{s':Ar}{v:Int}
def jr(c:CoC)(N:Nat)(x:Nu)(i:Nat)(p:Sp):Co×Dr×Int:=
 if p.a=1 then
  if p.pc=1 then(onA x.st (af x.st.s (nuFl N)),x.d,if ldW x.st.s.W (nuFl N)=0 then 2 else 1)
  else if p.pc=2 then(onA x.st (addA x.st.s (gaA (c.node i)) 1),x.d,3)
  else if p.pc=3 then(onA x.st (af x.st.s (nuFl N)),x.d,if ldW x.st.s.W (nuFl N)=0 then 10 else 4)
  else if p.pc=4 then(onA x.st (addA x.st.s (gaW (c.node i)) 1),x.d,1)
  else(onA x.st (addA x.st.s (gaW (c.node i)) 1),x.d,0)
 else if p.pc=5 then(bI c (onA x.st (addA x.st.s (nuFl N) 1)) i,x.d,7)
 else if p.pc=7 then(am c x.st i,if bo (sv x.st.T i) (sv (am c x.st i).T i)then dS x.d N false else x.d,if bo (sv x.st.T i) (sv (am c x.st i).T i)then 9 else 7)
 else if p.pc=9 then(onA x.st (aj x.st.s x.d).1,(aj x.st.s x.d).2.1,if (aj x.st.s x.d).2.2=true then 10 else 9)
 else if p.pc=12 then(aA (onA x.st (addA x.st.s (nuFl N) (-1))) i,x.d,13)
 else(am c x.st i,x.d,if bo (sv x.st.T i) (sv (am c x.st i).T i)then 0 else 13)
def bD(c:CoC)(N:Nat)(x:Nu)(i:Nat):Nu:=
 if (sv x.U i).pc=0\/(sv x.U i).pc=10 then x
 else⟨(jr c N x i (sv x.U i)).1,(jr c N x i (sv x.U i)).2.1,x.U.set i {(sv x.U i)with pc:=(jr c N x i (sv x.U i)).2.2}⟩
def gr(x:Nu)(i:Nat)(read:Bool):Nu:=
 if (sv x.U i).pc=0 then {x with U:=x.U.set i (if read then⟨1,1,0,0⟩else⟨5,0,0,0⟩)} else x
def ft(p:Sp):Bool:=decide (p.a=1/\(p.pc=3\/p.pc=4\/p.pc=10\/p.pc=11))
def dy(p:Sp):Prop:=p.a=1/\(p.pc=10\/p.pc=11)
def ER(p:Sp):Prop:=p.a=0/\(p.pc=9\/p.pc=10\/p.pc=12)
def wrC(p:Sp):Bool:=decide (p.a=0/\(p.pc=7\/p.pc=9\/p.pc=10\/p.pc=12))
def im(p t:Sp):Prop:=
 (p.pc=0/\t.pc=0)\/(p.a=1/\(p.pc=1\/p.pc=2\/p.pc=3\/p.pc=4\/p.pc=10\/p.pc=11)/\t.pc=0)\/(p.a=0/\p.pc=5/\t.pc=0)\/
  (p.a=0/\p.pc=7/\0<t.pc/\t.pc<10)\/(p.a=0/\(p.pc=9\/p.pc=10\/p.pc=12)/\t.pc=10)\/(p.a=0/\p.pc=13/\10<t.pc)
def gR(c:CoC)(n:Nat)(U:List Sp)(a:Nat):Nat:=jd n (λj=>decide (c.node j=a)&&ft (sv U j))
def lR(n:Nat)(U:List Sp):Nat:=jd n (λj=>wrC (sv U j))
def zN(c:CoC)(n N:Nat)(d:Dr)(W:List Int)(U:List Sp):Prop:=
 (d.busy=true/\d.once=false/\d.at_<N/\d.lim=N)/\(d.second=true->d.o<=ldW W (gaW d.at_))/\∀j,j<n->dy (sv U j)->d.at_<=c.node j
structure WsI(c:CoC)(n N:Nat)(ml:Nat->Nat)(x:Nu):Prop where
 m:CoM c n N ml x.st
 lU:x.U.length=n
 k:∀i,i<n->im (sv x.U i) (sv x.st.T i)
 g:∀a,a<N->ldW x.st.s.W (gaA a)=ldW x.st.s.W (gaW a)+(gR c n x.U a:Int)
 fl:ldW x.st.s.W (nuFl N)=(lR n x.U:Int)
 dr:∀i,i<n->(sv x.U i).a=0->(sv x.U i).pc=9->zN c n N x.d x.st.s.W x.U
 hd:∀i,i<n->(sv x.U i).a=0->(sv x.U i).pc=10->∀j,j<n->¬dy (sv x.U j)
section
variable{c:CoC}{x x':Nu}
def WsI.safe(h:WsI c n N ml x)(y:cD c n N ml){i:Nat}(hi:i<n)(h1:(sv x.U i).pc=10)(H:(sv x.U i).a=0)(hj:j<n)(I:(sv x.U j).pc=10):j=i/\(sv x.U j).a=0:=by
 have ki:=h.k i hi;have V:=h.k j hj;by_cases O:(sv x.U j).a=1;.exact absurd ⟨O,.inl I⟩ (h.hd i hi H h1 j hj)
 .have t1:(sv x.st.T i).pc=10:=by unfold im at ki;omega
  have t2:(sv x.st.T j).pc=10/\(sv x.U j).a=0:=by unfold im at V;omega
  exact abL
def WsI.one(h:WsI c n N ml x)(y:cD c n N ml){i:Nat}(hi:i<n)(H:j<n)(h1:(sv x.st.T i).pc=10)(I:(sv x.st.T j).pc=10):i=j:=h.m.one y hi H ahp ahp
def Fd{p t:Sp}(h:im p t)(hw:ER p):t.pc=10:=by unfold im at h;unfold ER at hw;omega
def lZ{i:Nat}(h:i<U.length)(hi:i<n)(p:Sp)(a:Nat):gR c n (U.set i p) a+(if c.node i=a/\ft (sv U i)=true then 1 else 0)=gR c n U a+(if c.node i=a/\ft p=true then 1 else 0):=by unfold gR;have:=jA (P:=λj=>decide (c.node j=a)&&ft (sv U j)) (Q:=λj=>decide (c.node j=a)&&ft (sv (U.set i p) j)) (i:=i) (λj H=>by rw[svS h,if_neg H]) n hi;simp only[Bool.and_eq_true,decide_eq_true_eq]at this;rw[svS h,if_pos rfl]at this;exact this
def WsI.upd(h:WsI c n N ml x){i:Nat}(hi:i<n){O:Co}{d':Dr}(hm:CoM c n N ml O)(hT:∀j,j≠i->sv O.T j=sv x.st.T j)(hk:im p' (sv O.T i))(hg:∀a,a<N->ldW O.s.W (gaA a)=ldW O.s.W (gaW a)+(gR c n (x.U.set i p') a:Int))(ML:ldW O.s.W (nuFl N)=(lR n (x.U.set i p'):Int))(hH:∀a,a<N->ldW x.st.s.W (gaW a)<=ldW O.s.W (gaW a))(Mb:dy p'->dy (sv x.U i)\/∀j,j<n->j≠i->¬ER (sv x.U j))(hd:∀j,j<n->j≠i->(sv x.U j).a=0->(sv x.U j).pc=9->d'=x.d)(od:p'.a=0->p'.pc=9->zN c n N d' O.s.W (x.U.set i p'))(oh:p'.a=0->p'.pc=10->∀j,j<n->j≠i->¬dy (sv x.U j)):WsI c n N ml ⟨O,d',x.U.set i p'⟩:=by
  refine aj7 ?_;intro hl;have hs:=svS hl p';refine⟨hm,by rw[List.length_set];exact h.lU,λj Y=>?_,hg,ML,λj Y h0 h9=>?_,λj Y h0 h10=>?_⟩
  . show im (sv (x.U.set i p') j) (sv O.T j);rw[hs];split;. rename_i e;rw[e];exact hk
    . rename_i e;rw[hT j e];exact h.k j Y
  . have I:(sv (x.U.set i p') j).a=0:=h0;have H:(sv (x.U.set i p') j).pc=9:=h9;rw[hs]at I H;by_cases e:j=i;. rw[if_pos e]at I H;exact od I H
    . rw[if_neg e]at I H;obtain⟨q1,q2,q3⟩:=h.dr j Y I H;show zN c n N d' O.s.W (x.U.set i p');rw[hd j Y e I H];refine⟨q1,λhq=>Int.le_trans (q2 hq) (hH _ q1.2.2.1),λk hk V=>?_⟩;rw[hs]at V;split at V
      . rename_i e2;rcases Mb V with h1|h1
        . rw[e2];exact q3 i hi h1
        . exact absurd ⟨I,.inl H⟩ (h1 j Y e)
      . exact q3 k hk V
  . have I:(sv (x.U.set i p') j).a=0:=h0;have H:(sv (x.U.set i p') j).pc=10:=h10;rw[hs]at I H;intro k hk V;have KQ:dy (sv (x.U.set i p') k):=V;rw[hs]at KQ;by_cases e:j=i
    . rw[if_pos e]at I H;split at KQ;. unfold dy at KQ;omega
      . rename_i e2;exact oh I H k hk e2 KQ
    . rw[if_neg e]at I H;split at KQ
      . rcases Mb KQ with h1|h1
        . exact h.hd j Y I H i hi h1
        . exact h1 j Y e ⟨I,.inr (.inl H)⟩
      . exact h.hd j Y I H k hk KQ
def rf(h:WsI c n N ml x)(y:cD c n N ml)(l:NuL c N x.st.s.W)(hz:1<=z/\z<=nuFl N)(v:Int)(e:s'.W=stW x.st.s.W z v):(∀q,ldW s'.W q=if q=z then v else ldW x.st.s.W q)/\CoM c n N ml (onA x.st s'):=by exact abM
def li(h:WsI c n N ml x)(y:cD c n N ml)(e:s'.W=x.st.s.W):CoM c n N ml (onA x.st s'):=
 h.m.low y (by rw[e]) (λq _=>by rw[e]) (h.m.v.ars s')
def nV{i:Nat}(h:i<U.length)(hi:i<n)(p:Sp):lR n (U.set i p)+(if wrC (sv U i)=true then 1 else 0)=lR n U+(if wrC p=true then 1 else 0):=by unfold lR;have:=jA (P:=λj=>wrC (sv U j)) (Q:=λj=>wrC (sv (U.set i p) j)) (i:=i) (λj H=>by rw[svS h,if_neg H]) n hi;rw[svS h,if_pos rfl]at this;exact this
def ez(h:WsI c n N ml x){i:Nat}(hi:i<n)(I:wrC p'=wrC (sv x.U i))(O:v=ldW x.st.s.W (nuFl N)):v=(lR n (x.U.set i p'):Int):=by have:=nV (n:=n) (show i<x.U.length by rw[h.lU];exact hi) hi p';rw[I]at this;rw[O,h.fl];omega
def Ju(h:WsI c n N ml x){i:Nat}(hi:i<n)(h0:wrC (sv x.U i)=false)(h1:wrC p'=true)(O:v=ldW x.st.s.W (nuFl N)+1):v=(lR n (x.U.set i p'):Int):=by exact aci
def FK(h:WsI c n N ml x){i:Nat}(hi:i<n)(h0:wrC (sv x.U i)=true)(h1:wrC p'=false)(O:v=ldW x.st.s.W (nuFl N)+ -1):v=(lR n (x.U.set i p'):Int):=by exact aci
def yv{P:Nat->Bool}{i:Nat}(h:jd n P=0)(hi:i<n):P i=false:=by
 cases H:P i with
 |false=>rfl
 |true=>have:=jB hi H;omega
def WsI.none(h:WsI c n N ml x)(H:ldW x.st.s.W (nuFl N)=0)(I:j<n):¬((sv x.U j).a=0/\((sv x.U j).pc=7\/(sv x.U j).pc=9\/(sv x.U j).pc=10\/(sv x.U j).pc=12)):=by have h1:=h.fl;rw[H]at h1;have:=yv (P:=λj=>wrC (sv x.U j)) (n:=n) (show jd n _=0 by have:(lR n x.U:Int)=0:=h1.symm;unfold lR at this;omega) I;exact of_decide_eq_false this
def Dt(h:WsI c n N ml x){i:Nat}(hi:i<n)(I:ft p'=ft (sv x.U i))(a:Nat):gR c n (x.U.set i p') a=gR c n x.U a:=by have:=lZ (c:=c) (n:=n) (show i<x.U.length by rw[h.lU];exact hi) hi p' a;rw[I]at this;omega
def dI(h:WsI c n N ml x){i:Nat}(hi:i<n)(I:ft p'=ft (sv x.U i))(hw:∀q,q<nuFl N->ldW W' q=ldW x.st.s.W q):∀a,a<N->ldW W' (gaA a)=ldW W' (gaW a)+(gR c n (x.U.set i p') a:Int):=λa H=>by
 rw[hw _ (eM H).2,hw _ (bG H).2,Dt h hi I a];exact h.g a H
def Hl(h:WsI c n N ml x)(hn:∀j,j<n->c.node j<N){i:Nat}(hi:i<n)(h0:ft (sv x.U i)=false)(h1:ft p'=true)(hw:∀q,ldW W' q=if q=gaA (c.node i)then ldW x.st.s.W (gaA (c.node i))+1 else ldW x.st.s.W q):∀a,a<N->ldW W' (gaA a)=ldW W' (gaW a)+(gR c n (x.U.set i p') a:Int):=λa ha=>by
 have h2:=lZ (c:=c) (n:=n) (show i<x.U.length by rw[h.lU];exact hi) hi p' a
 exact abN
def Bp(h:WsI c n N ml x)(hn:∀j,j<n->c.node j<N){i:Nat}(hi:i<n)(h0:ft (sv x.U i)=true)(h1:ft p'=false)(hw:∀q,ldW W' q=if q=gaW (c.node i)then ldW x.st.s.W (gaW (c.node i))+1 else ldW x.st.s.W q):∀a,a<N->ldW W' (gaA a)=ldW W' (gaW a)+(gR c n (x.U.set i p') a:Int):=λa ha=>by
 have h2:=lZ (c:=c) (n:=n) (show i<x.U.length by rw[h.lU];exact hi) hi p' a
 exact abO
end
end
section
open Go.RowKit
section
variable{B BC:Nat->Prop}{w:World}{a g:Nat}{X:SmX}{c:CoC}{st C':Co}{d d':Dr}{U:List Sp}{s':Ar}
def Fo(h:aw 337 B BC w a g X c P T st d U)(n:Nat)(hn:n<T.length)(r:Bool):E 396 #[↑X.l,J n,.bool r] w (av 337 B BC w a g X c P T U n (gr ⟨st,d,U⟩ n r)):=by
 have mP:okI U (n:Int):=⟨by omega,by rw[h.lU];omega⟩;have HH:=qh (Bv h n true (decide_eq_true mP).symm);have hp:=h.thr hn;have H:=qh h;obtain⟨x',O⟩:=LE (gr ⟨st,d,U⟩ n r);rw[<-O];unfold gr at O;obtain⟨p,i'⟩:=LE (sv U n);simp only at O;rw[<-i']at hp O;have c6:=h.cs.2.2.2.2.2.2;refine aiM ?_;intro a0 a1 a2 a3;have f1:∀j,w.frozen? ⟨X.q,j,none⟩=false:=λj=>h.sp.free j;have t2:¬(n:Int)<0:=by omega
 have SD:X.q≠X.l:=h.o3.1;have HX:=qh O;have HP:=qh hp;clear h hp i' mP O;by_cases I:p.pc=0
 .have y1:(p.pc !=0)=false:=by simpa using I
  have HP0:=qh I;clear I;have V:=qh (H.o.put4 hn ⟨5,0,0,0⟩);have e6:=V.o.cs.2.2.2.2.2.2;cases r;.go_enter func396,ntmps396;go_wp2_with fail;refine LT HH.o ?_;go_wp2;go_ret;rw[HX.o,if_pos HP0.o];first|exact av.stay (V.o) (fg _ _ _ _ _ _) rfl|exact av.put HP.o (V.o) (fg _ _ _ _ _ _) rfl ahz
  .go_enter func396,ntmps396;go_wp2_with fail;refine LT HH.o ?_;go_wp2;go_ret;rw[HX.o,if_pos HP0.o];have Y:=V.o.put4 hn ⟨1,1,0,0⟩;rw[List.set_set]at Y;first|exact av.stay (Y) ((fg _ _ _ _ _ _).trans (fg _ _ _ _ _ _)) rfl|exact av.put HP.o (Y) ((fg _ _ _ _ _ _).trans (fg _ _ _ _ _ _)) rfl ahz
 .have y1:(p.pc !=0)=true:=by simpa using I
  have HP0:=qh I;clear I;go_enter func396,ntmps396;exact abR
def BL(h:aw 337 B BC w a g X c P T st d U)(n:Nat)(hn:n<T.length)(ha:(sv U n).pc=10->(sv U n).a=0\/(sv U n).a=1):E 397 #[↑X.l,J n] w (av 337 B BC w a g X c P T U n (aK ⟨st,d,U⟩ n)):=by
 have Kh:=aO;have I':=ps h n;have hp:=h.thr hn;have hg:getS U (n:Int)=sv U n:=by exact abS
 rw[hg]at I';refine ajW ?_;intro H x' p i' mT;rw[<-i']at hp mT I' ha;have HS:=qh I';have HP:=qh hp;refine ajP ?_;intro t2 My;clear h hp i' hg I';obtain⟨pc,u,b,z⟩:=p;simp only at ha mT;unfold aC at HS;by_cases Kl:pc=10
 .subst Kl;have K7:=ha rfl;rw[if_pos rfl]at mT;clear ha;rcases K7 with rfl|rfl
  .have HX:Kq (x'=⟨st,d,U.set n ⟨12,0,b,z⟩⟩):=qh mT;have x1:IntKind.i64.wrap 12=12:=IntWalk.i64_in _ ahp;clear mT;go_enter func397,ntmps397;go_wp2_with fail;refine aiX ?_;intro w1 b1 K1 T1;go_upto_region 2 with fail;obtain⟨Y,K9⟩:=LE w1.heap.size;obtain⟨V,Kt⟩:=LE (w1.alloc (cells #[J 10,J 0,J b,J z] 113));rw[<-Kt,<-K9];have O:=qh (show aw 337 B BC V a g X c P T st d U/\aa (SmS a g X) w V/\Blk V Y 113 #[J 10,J 0,J b,J z]/\Y≠X.q from⟨by rw[Kt];exact K1.o.below ((Below.refl _ _).alloc (Nat.le_refl _) _),by rw[Kt];exact T1.o.alloc _,by rw[Kt,K9];exact Blk.new _ _ _,by have q1:=K1.o.sp.lt;omega⟩);clear Kt K9 K1 T1;have HC:=qh (λW (U':List Sp) (k:aw 337 B BC W a g X c P T st d U') (I:Blk W Y 113 #[J 10,J 0,J b,J z])=>And.intro k.cs.2.2.2.2.2.2 (show W.cell? ⟨Y,1,none⟩=some (J 0)from I.cell 1));have K2:=qh (O.o.1.below (Below.refl _ _).drew);have B2:=qh ((aa.refl [] V).drew.blk O.o.2.2.1 ahq);have K3:=qh ((O.o.1.put0 HP.o (p':=(⟨12,0,b,z⟩:Sp)) (u:= J 12) rfl).below (Below.refl _ _).drew);have T3:=qh ((O.o.2.1.trans (dZ (n*4) (J 12))).drew);have B3:=qh (((aV _ _ _:aa [X.q] V (V.setCell ⟨X.q,n*4,none⟩ (J 12))).drew).blk O.o.2.2.1 (by simp;exact O.o.2.2.2));have v0:V.cell? Y=some (J 10):=O.o.2.2.1.cell 0;have e0:=aaa (K2.o.sp.cell HP.o 0 _ rfl);have z0:=K2.o.sp.free (n*4);go_wp2_with fail
   go_region_held3 (λW=>Z W X.l 6 (slice (some ⟨X.q,0,none⟩) T.length T.length)/\Z W Y 1 (J 0))
    (first|with_reducible exact HC.o _ _ K2.o B2.o|with_reducible exact HC.o _ _ K3.o B3.o)
    (first|fail)
   exact abT
  .have HX:Kq (x'=⟨st,d,U.set n ⟨11,1,b,z⟩⟩):=qh mT;have x1:IntKind.i64.wrap 11=11:=IntWalk.i64_in _ ahp;clear mT;go_enter func397,ntmps397;go_wp2_with fail;refine aiX ?_;intro w1 b1 K1 T1;go_upto_region 2 with fail;obtain⟨Y,K9⟩:=LE w1.heap.size;obtain⟨V,Kt⟩:=LE (w1.alloc (cells #[J 10,J 1,J b,J z] 113));rw[<-Kt,<-K9];have O:=qh (show aw 337 B BC V a g X c P T st d U/\aa (SmS a g X) w V/\Blk V Y 113 #[J 10,J 1,J b,J z]/\Y≠X.q from⟨by rw[Kt];exact K1.o.below ((Below.refl _ _).alloc (Nat.le_refl _) _),by rw[Kt];exact T1.o.alloc _,by rw[Kt,K9];exact Blk.new _ _ _,by have q1:=K1.o.sp.lt;omega⟩);clear Kt K9 K1 T1;have HC:=qh (λW (U':List Sp) (k:aw 337 B BC W a g X c P T st d U') (I:Blk W Y 113 #[J 10,J 1,J b,J z])=>And.intro k.cs.2.2.2.2.2.2 (show W.cell? ⟨Y,1,none⟩=some (J 1)from I.cell 1));have K2:=qh (O.o.1.below (Below.refl _ _).drew);have B2:=qh ((aa.refl [] V).drew.blk O.o.2.2.1 ahq);have K3:=qh ((O.o.1.put0 HP.o (p':=(⟨11,1,b,z⟩:Sp)) (u:= J 11) rfl).below (Below.refl _ _).drew);have T3:=qh ((O.o.2.1.trans (dZ (n*4) (J 11))).drew);have B3:=qh (((aV _ _ _:aa [X.q] V (V.setCell ⟨X.q,n*4,none⟩ (J 11))).drew).blk O.o.2.2.1 (by simp;exact O.o.2.2.2));have v0:V.cell? Y=some (J 10):=O.o.2.2.1.cell 0;have e0:=aaa (K2.o.sp.cell HP.o 0 _ rfl);have z0:=K2.o.sp.free (n*4);go_wp2_with fail
   go_region_held3 (λW=>Z W X.l 6 (slice (some ⟨X.q,0,none⟩) T.length T.length)/\Z W Y 1 (J 1))
    (first|with_reducible exact HC.o _ _ K2.o B2.o|with_reducible exact HC.o _ _ K3.o B3.o)
    (first|fail)
   exact abT
 .have y1:(pc !=10)=true:=by simpa using Kl
  have HX:=qh mT;have HP0:=qh Kl;clear Kl ha mT;go_enter func397,ntmps397;exact ab8
end
end
section
open Go.RowKit
section
variable{B BC:Nat->Prop}{w:World}{a g:Nat}{X:SmX}{c:CoC}{st C':Co}{d d':Dr}{U:List Sp}{s':Ar}
def xB(h:aw 337 B BC w a g X c P T st d U)(Y:st.s.ops+1<=1000000000000):E 405 #[↑X.l] w λe w'=>e= returned (bool (ldW st.s.W (nuFl (ac P).length)==0))/\aw 337 B BC w' a g X c P T (onA st (af st.s (nuFl (ac P).length))) d U/\aa (SmS a g X) w w':=by
 have H:=qh h;clear h;obtain⟨q,V⟩:=LE (ldW st.s.W (nuFl (ac P).length));rw[<-V];have HQ:=qh V;clear V;have I:=qh H.o.drw;have hv:=qh (aE (I.o).gd.ar (nuFl (ac P).length) Y);rw[<-HQ.o]at hv;go_enter func405,ntmps405;go_wp2_with fail
 go_region_held3 (λW=>W.cell? X.l=some ↑a/\Z W X.l 4 (J (2*((ac P).length:Int)+1)))
  (first|exact⟨I.o.cs.1,I.o.cs.2.2.2.2.1⟩|exact⟨K1.o.cs.1,K1.o.cs.2.2.2.2.1⟩)
  (first
   |(go_at_call 173;go_loud (refine Pi hv.o λw1 O=>?_);have K1:=qh (I.o.arT O.o.2 O.o.1);have T1:=qh ((aa.refl (SmS a g X) w).drew.trans (ff O.o.2))))
 exact acj
def Es(h:aw 337 B BC w a g X c P T st d U)(n:Nat)(V:n<T.length)(hnd:nd<(ac P).length)(I:(ao P T T.length)[n]? =some ((nd:Nat):Int))(Y:st.s.ops+1<=1000000000000):E 404 #[↑X.l,J n,J 2] w (ce 337 B BC w a g X c P T (onA st (addA st.s (2*(nd:Int)+1) 1),d,3) U):=by have O:=qh (jN w X.b P T n V h.tb.f _ I);have l1:=h.cs.2.1;have hnd:=qh hnd;have H:=qh h;clear h I;go_enter func404,ntmps404;go_wp2_with fail;refine LT O.o ?_;exact ab9
def Eu(h:aw 337 B BC w a g X c P T st d U)(n:Nat)(hn:n<T.length)(hnd:nd<(ac P).length)(J8:(ao P T T.length)[n]? =some ((nd:Nat):Int))(Y:st.s.ops+1<=1000000000000):E 404 #[↑X.l,J n,J 4] w (ce 337 B BC w a g X c P T (onA st (addA st.s (2*(nd:Int)+1+1) 1),d,1) U):=by exact ack
def Cv(h:aw 337 B BC w a g X c P T st d U)(n:Nat)(hn:n<T.length)(hnd:nd<(ac P).length)(J8:(ao P T T.length)[n]? =some ((nd:Nat):Int))(Y:st.s.ops+1<=1000000000000):E 404 #[↑X.l,J n,J 11] w (ce 337 B BC w a g X c P T (onA st (addA st.s (2*(nd:Int)+1+1) 1),d,0) U):=by exact ack
def Er(h:aw 337 B BC w a g X c P T st d U)(n:Nat)(V:n<T.length)(I:nd<(ac P).length)(J8:(ao P T T.length)[n]? =some ((nd:Nat):Int))(Y:st.s.ops+1<=1000000000000):E 404 #[↑X.l,J n,J 1] w (ce 337 B BC w a g X c P T (onA st (af st.s (nuFl (ac P).length)),d,if ldW st.s.W (nuFl (ac P).length)=0 then 2 else 1) U):=by
  have Me:=qh (jN w X.b P T n V h.tb.f _ J8);have l1:=h.cs.2.1;have I:=qh I;have Oe:=xB h Y;obtain⟨q,hq⟩:=LE (ldW st.s.W (nuFl (ac P).length));rw[<-hq]at Oe ⊢;obtain⟨v,O⟩:∃v:Int,v=if q=0 then 2 else 1:=⟨_,rfl⟩
  exact acl
def Et(h:aw 337 B BC w a g X c P T st d U)(n:Nat)(V:n<T.length)(I:nd<(ac P).length)(J8:(ao P T T.length)[n]? =some ((nd:Nat):Int))(Y:st.s.ops+1<=1000000000000):E 404 #[↑X.l,J n,J 3] w (ce 337 B BC w a g X c P T (onA st (af st.s (nuFl (ac P).length)),d,if ldW st.s.W (nuFl (ac P).length)=0 then 10 else 4) U):=by
  have Me:=qh (jN w X.b P T n V h.tb.f _ J8);have l1:=h.cs.2.1;have I:=qh I;have Oe:=xB h Y;obtain⟨q,hq⟩:=LE (ldW st.s.W (nuFl (ac P).length));rw[<-hq]at Oe ⊢;obtain⟨v,O⟩:∃v:Int,v=if q=0 then 10 else 4:=⟨_,rfl⟩
  exact acl
def C6(h:aw 337 B BC w a g X c P T st d U)(n:Nat)(hn:n<T.length)(Y:st.s.ops+1<=1000000000000):E 403 #[↑X.l,J n,J 5] w (ce 337 B BC w a g X c P T (bI c (onA st (addA st.s (nuFl (ac P).length) 1)) n,d,7) U):=by
 have J':n<X.x.n:=by rw[h.nT.1];exact hn
 have H:=qh h;clear h;go_enter func403,ntmps403;have K0:=H;have T0:=qh (aa.refl (SmS a g X) w);have I:=qh K0.o.drw;have hv:=qh (ie (I.o).gd.ar (nuFl (ac P).length) (1) Y);obtain⟨va,V⟩:∃va:Int,va=(if inR st.s.W (nuFl (ac P).length)then IntKind.i64.wrap (ldW st.s.W (nuFl (ac P).length)+(1))else 0):=⟨_,rfl⟩;rw[<-V]at hv;clear V;go_wp2_with fail
 go_region_held3 (λW=>W.cell? X.l=some ↑a/\Z W X.l 4 (J (2*((ac P).length:Int)+1)))
  (first|exact⟨I.o.cs.1,I.o.cs.2.2.2.2.1⟩|exact⟨K1.o.cs.1,K1.o.cs.2.2.2.2.1⟩)
  (first
   |(go_at_call 298;go_loud (refine Pi hv.o λw1 O=>?_);have K1:=qh (I.o.arT O.o.2 O.o.1);have T1:=qh (T0.o.drew.trans (ff O.o.2))))
 have l5:=K1.o.cs.2.2.2.2.2.1;go_wp2_with fail;refine Pi (sf K1.o.co n J') λw2 k3=>?_;exact acm
def zB(h:aw 337 B BC w a g X c P T st d U)(n:Nat)(hn:n<T.length)(Y:st.s.ops+1<=1000000000000):E 403 #[↑X.l,J n,J 12] w (ce 337 B BC w a g X c P T (aA (onA st (addA st.s (nuFl (ac P).length) (-1))) n,d,13) U):=by
 have J':n<X.x.n:=by rw[h.nT.1];exact hn
 have H:=qh h;clear h;go_enter func403,ntmps403;have K0:=H;have T0:=qh (aa.refl (SmS a g X) w);have I:=qh K0.o.drw;have hv:=qh (ie (I.o).gd.ar (nuFl (ac P).length) (-1) Y);obtain⟨va,V⟩:∃va:Int,va=(if inR st.s.W (nuFl (ac P).length)then IntKind.i64.wrap (ldW st.s.W (nuFl (ac P).length)+(-1))else 0):=⟨_,rfl⟩;rw[<-V]at hv;clear V;go_wp2_with fail
 go_region_held3 (λW=>W.cell? X.l=some ↑a/\Z W X.l 4 (J (2*((ac P).length:Int)+1)))
  (first|exact⟨I.o.cs.1,I.o.cs.2.2.2.2.1⟩|exact⟨K1.o.cs.1,K1.o.cs.2.2.2.2.1⟩)
  (first
   |(go_at_call 298;go_loud (refine Pi hv.o λw1 O=>?_);have K1:=qh (I.o.arT O.o.2 O.o.1);have T1:=qh (T0.o.drew.trans (ff O.o.2))))
 exact acf
def zC(h:aw 337 B BC w a g X c P T st d U)(n:Nat)(hn:n<T.length)(C:df BB X.x c st)(Y:st.s.ops+1<=1000000000000):E 403 #[↑X.l,J n,J 13] w (ce 337 B BC w a g X c P T (am c st n,d,if bo (sv st.T n) (sv (am c st n).T n)then 0 else 13) U):=by
 have J':n<X.x.n:=by rw[h.nT.1];exact hn
 have I:=mz h.co C n J';obtain⟨q,O⟩:=LE (bo (sv st.T n) (sv (am c st n).T n));rw[<-O]at I ⊢;have V:=qh I;have l5:=h.cs.2.2.2.2.2.1;have H:=qh h;clear h O I;cases q;all_goals go_enter func403,ntmps403;go_wp2_with fail;refine Pi V.o λw1 k3=>?_;have K1:=qh (H.o.coT k3.o.2 k3.o.1);have T1:=qh (gZ (X:=X) k3.o.2);go_wp2;go_ret;exact⟨rfl,K1.o,T1.o⟩
def C7(h:aw 337 B BC w a g X c P T st d U)(n:Nat)(hn:n<T.length)(C:df BB X.x c st)(hN:1<=(ac P).length)(Y:st.s.ops+1<=1000000000000):E 403 #[↑X.l,J n,J 7] w (ce 337 B BC w a g X c P T (am c st n,if bo (sv st.T n) (sv (am c st n).T n)then dS d (ac P).length false else d,if bo (sv st.T n) (sv (am c st n).T n)then 9 else 7) U):=by
 have J':n<X.x.n:=by rw[h.nT.1];exact hn
 have I:=mz h.co C n J';obtain⟨q,V⟩:=LE (bo (sv st.T n) (sv (am c st n).T n));rw[<-V]at I ⊢;have O:=qh I;have l5:=h.cs.2.2.2.2.2.1;have H:=qh h;clear h V I;cases q;.go_enter func403,ntmps403;go_wp2_with fail;refine Pi O.o λw1 k3=>?_;have K1:=qh (H.o.coT k3.o.2 k3.o.1);have T1:=qh (gZ (X:=X) k3.o.2);exact acj
 .go_enter func403,ntmps403;go_wp2_with fail;refine Pi O.o λw1 k3=>?_;have K1:=qh (H.o.coT k3.o.2 k3.o.1);have T1:=qh (gZ (X:=X) k3.o.2);exact acb
def C8(h:aw 337 B BC w a g X c P T st d U)(I:d.busy=true->d.at_<(ac P).length)(n:Nat)(Y:st.s.ops+1<=1000000000000):E 403 #[↑X.l,J n,J 9] w (ce 337 B BC w a g X c P T (onA st (aj st.s d).1,(aj st.s d).2.1,if (aj st.s d).2.2=true then 10 else 9) U):=by obtain⟨r,V⟩:=LE (aj st.s d);have O:=m6 h.gd I Y;rw[<-V]at O ⊢;obtain⟨s1,d1,q⟩:=r;simp only at O ⊢;have HD:=qh O;have H:=qh h;clear h V I O;cases q;all_goals go_enter func403,ntmps403;have d3:=H.o.cs.2.2.2.1;go_wp2_with fail;refine Pi HD.o λw1 k4=>?_;have K1:=qh (H.o.gdT k4.o.2 k4.o.1);have T1:=qh (jm (X:=X) k4.o.2);go_wp2;go_ret;exact⟨rfl,K1.o,T1.o⟩
end
end
section
open Go.RowKit
section
variable{B BC:Nat->Prop}{w:World}{a g:Nat}{X:SmX}{c:CoC}{st C':Co}{d d':Dr}{U:List Sp}{s':Ar}
def xM(h:aw 337 B BC w a g X c P T st d U)(n:Nat)(hn:n<T.length)(hc:(sv U n).pc=0\/(sv U n).pc=10):E 400 #[↑X.l,J n] w (av 337 B BC w a g X c P T U n (bD c (ac P).length ⟨st,d,U⟩ n)):=by
 have Kh:=aO;have O:=ps h n;have hp:=h.thr hn;have hg:getS U (n:Int)=sv U n:=by exact abS
 rw[hg]at O;have H:=qh h;refine ajP ?_;intro t2 My;have mT:bD c (ac P).length ⟨st,d,U⟩ n=⟨st,d,U⟩:=by unfold bD;rw[if_pos hc]
 obtain⟨p,Y⟩:=LE (sv U n);rw[<-Y]at hc O;have V:=qh O;have HX:=qh mT;clear h hp Y mT hg O;obtain⟨pc,u,b,z⟩:=p;simp only at hc;unfold aC at V;rcases hc with rfl|rfl
 all_goals go_enter func400,ntmps400;go_wp2_with fail;refine Pi V.o λw1 I=>?_;go_wp2;go_ret;rw[HX.o];first|exact av.stay ((H.o.below I.o).below ((Below.refl _ _).alloc (Nat.le_refl _) _)) ((aa.of_below I.o).alloc _) rfl|exact av.put HP.o ((H.o.below I.o).below ((Below.refl _ _).alloc (Nat.le_refl _) _)) ((aa.of_below I.o).alloc _) rfl ahz
def i5(h:aw 337 B BC w a g X c P T st d U)(n:Nat)(hn:n<T.length)(pc b z:Int)(hU:sv U n=⟨pc,1,b,z⟩)(hc:pc≠0/\pc≠10)(hD:∀W,aw 337 B BC W a g X c P T st d U->E 404 #[↑X.l,J n,J pc] W (ce 337 B BC W a g X c P T (jr c (ac P).length ⟨st,d,U⟩ n ⟨pc,1,b,z⟩) U)):E 400 #[↑X.l,J n] w (av 337 B BC w a g X c P T U n (bD c (ac P).length ⟨st,d,U⟩ n)):=by
  have Kh:=aO;have Y:=ps h n;have hp:=h.thr hn;have hg:getS U (n:Int)=sv U n:=by exact abS
  rw[hg]at Y;have H:=qh h;refine ajP ?_;intro t2 My;obtain⟨r,V⟩:=LE (jr c (ac P).length ⟨st,d,U⟩ n ⟨pc,1,b,z⟩);have mT:bD c (ac P).length ⟨st,d,U⟩ n=⟨r.1,r.2.1,U.set n ⟨r.2.2,1,b,z⟩⟩:=by unfold bD;exact ach
  rw[<-V]at hD;rw[hU]at hp Y;obtain⟨s1,d1,v⟩:=r;simp only at mT;have u0:(pc==0)=false:=(by simpa using hc.1);have u1:(pc==10)=false:=(by simpa using hc.2);have HX:=qh mT;have HS:=qh Y;have HP:=qh hp;have HD:=qh hD;clear h hp mT hg Y hD V hU hc;unfold aC at HS;cases v1:(v==10)<;>cases v2:(v==0);all_goals go_enter func400,ntmps400;go_wp2_with fail;refine aiX ?_;intro w1 b1 K1 T1;go_upto_region 2 with fail;obtain⟨sb,K9⟩:=LE w1.heap.size;obtain⟨O,I⟩:=LE (w1.alloc (cells #[J pc,J 1,J b,J z] 113));rw[<-I,<-K9];have Ku:=qh (show aw 337 B BC O a g X c P T st d U/\aa (SmS a g X) w O/\Blk O sb 113 #[J pc,J 1,J b,J z]/\sb∉SmS a g X from⟨by rw[I];exact(K1.o).below ((Below.refl _ _).alloc (Nat.le_refl _) _),by rw[I];exact T1.o.alloc _,by rw[I,K9];exact Blk.new _ _ _,λk=>by have:=K1.o.ltsA _ k;omega⟩);clear I K9 K1 T1;have v0:O.cell? sb=some (J pc):=Ku.o.2.2.1.cell 0;have va:Z O sb 1 (J 1):=Ku.o.2.2.1.cell 1;go_wp2_with fail;refine Pi (HD.o _ Ku.o.1) λw3 k3=>?_;have K3:=qh k3.o.1;have T3:=qh (Ku.o.2.1.trans k3.o.2)
  all_goals refine ajG ?_;intro e0 z0 d6;have K4:=qh (K3.o.put0 HP.o (p':=(⟨v,1,b,z⟩:Sp)) (u:= J v) rfl);go_wp2;go_ret;rw[HX.o];first|exact av.stay (K4.o) (T3.o.trans (dZ _ _)) rfl|exact av.put HP.o (K4.o) (T3.o.trans (dZ _ _)) rfl ahz
def i4(h:aw 337 B BC w a g X c P T st d U)(n:Nat)(hn:n<T.length)(pc b z:Int)(hU:sv U n=⟨pc,0,b,z⟩)(hc:pc≠0/\pc≠10)(hD:∀W,aw 337 B BC W a g X c P T st d U->E 403 #[↑X.l,J n,J pc] W (ce 337 B BC W a g X c P T (jr c (ac P).length ⟨st,d,U⟩ n ⟨pc,0,b,z⟩) U)):E 400 #[↑X.l,J n] w (av 337 B BC w a g X c P T U n (bD c (ac P).length ⟨st,d,U⟩ n)):=by
  have Kh:=aO;have Y:=ps h n;have hp:=h.thr hn;have hg:getS U (n:Int)=sv U n:=by exact abS
  rw[hg]at Y;have H:=qh h;refine ajP ?_;intro t2 My;obtain⟨r,V⟩:=LE (jr c (ac P).length ⟨st,d,U⟩ n ⟨pc,0,b,z⟩);have mT:bD c (ac P).length ⟨st,d,U⟩ n=⟨r.1,r.2.1,U.set n ⟨r.2.2,0,b,z⟩⟩:=by unfold bD;exact ach
  rw[<-V]at hD;rw[hU]at hp Y;obtain⟨s1,d1,v⟩:=r;simp only at mT;have u0:(pc==0)=false:=(by simpa using hc.1);have u1:(pc==10)=false:=(by simpa using hc.2);have HX:=qh mT;have HS:=qh Y;have HP:=qh hp;have HD:=qh hD;clear h hp mT hg Y hD V hU hc;unfold aC at HS;cases v1:(v==10)<;>cases v2:(v==0);all_goals go_enter func400,ntmps400;go_wp2_with fail;refine aiX ?_;intro w1 b1 K1 T1;go_upto_region 2 with fail;obtain⟨sb,K9⟩:=LE w1.heap.size;obtain⟨O,I⟩:=LE (w1.alloc (cells #[J pc,J 0,J b,J z] 113));rw[<-I,<-K9];have Ku:=qh (show aw 337 B BC O a g X c P T st d U/\aa (SmS a g X) w O/\Blk O sb 113 #[J pc,J 0,J b,J z]/\sb∉SmS a g X from⟨by rw[I];exact(K1.o).below ((Below.refl _ _).alloc (Nat.le_refl _) _),by rw[I];exact T1.o.alloc _,by rw[I,K9];exact Blk.new _ _ _,λk=>by have:=K1.o.ltsA _ k;omega⟩);clear I K9 K1 T1;have v0:O.cell? sb=some (J pc):=Ku.o.2.2.1.cell 0;have va:Z O sb 1 (J 0):=Ku.o.2.2.1.cell 1;go_wp2_with fail;refine Pi (HD.o _ Ku.o.1) λw3 k3=>?_;have K3:=qh k3.o.1;have T3:=qh (Ku.o.2.1.trans k3.o.2)
  all_goals refine ajG ?_;intro e0 z0 d6;have K4:=qh (K3.o.put0 HP.o (p':=(⟨v,0,b,z⟩:Sp)) (u:= J v) rfl);go_wp2;go_ret;rw[HX.o];first|exact av.stay (K4.o) (T3.o.trans (dZ _ _)) rfl|exact av.put HP.o (K4.o) (T3.o.trans (dZ _ _)) rfl ahz
def EH(h:aw 337 B BC w a g X c P T st d U)(n:Nat)(H:n<T.length)(hc:im (sv U n) (sv st.T n))(Y:st.s.ops+1<=1000000000000)(hN:1<=(ac P).length)(I:((sv U n).a=0->(sv U n).pc=9->d.busy=true->d.at_<(ac P).length))(C:df BB X.x c st):E 400 #[↑X.l,J n] w (av 337 B BC w a g X c P T U n (bD c (ac P).length ⟨st,d,U⟩ n)):=by
  obtain⟨p,V⟩:=LE (sv U n)
  have Kf:p.pc=0\/p.pc=10\/(p.a=1/\p.pc=1)\/(p.a=1/\p.pc=2)\/(p.a=1/\p.pc=3)\/(p.a=1/\p.pc=4)\/(p.a=1/\p.pc=11)\/(p.a=0/\p.pc=5)\/(p.a=0/\p.pc=7)\/(p.a=0/\p.pc=9)\/(p.a=0/\p.pc=12)\/(p.a=0/\p.pc=13):=by
    rw[<-V]at hc;unfold im at hc;rcases hc with⟨q1,_⟩|⟨q1,q2,_⟩|⟨q1,q2,_⟩|⟨q1,q2,_⟩|⟨q1,q2,_⟩|⟨q1,q2,_⟩
    all_goals omega
  have ab:=I;rw[<-V]at ab;obtain⟨pc,u,b,z⟩:=p;have JU:(sv U n).pc=pc:=by rw[<-V]
  simp only at Kf ab;have O:=h.nodeA H;rcases Kf with rfl|rfl|⟨rfl,rfl⟩|⟨rfl,rfl⟩|⟨rfl,rfl⟩|⟨rfl,rfl⟩|⟨rfl,rfl⟩|⟨rfl,rfl⟩|⟨rfl,rfl⟩|⟨rfl,rfl⟩|⟨rfl,rfl⟩|⟨rfl,rfl⟩
  . exact xM h n H (.inl JU)
  . exact xM h n H (.inr JU)
  . exact i5 h n H _ b z V.symm ahr (λW k=>Er k n H O.1 O.2 Y)
  . exact i5 h n H _ b z V.symm ahr (λW k=>Es k n H O.1 O.2 Y)
  . exact i5 h n H _ b z V.symm ahr (λW k=>Et k n H O.1 O.2 Y)
  . refine i5 h n H _ b z V.symm ahr (λW k=>?_);have k9:=Eu k n H O.1 O.2 Y;rw[show 2*((c.node n:Nat):Int)+1+1=gaW (c.node n)by unfold gaW;omega]at k9;exact k9
  . refine i5 h n H _ b z V.symm ahr (λW k=>?_);have k9:=Cv k n H O.1 O.2 Y;rw[show 2*((c.node n:Nat):Int)+1+1=gaW (c.node n)by unfold gaW;omega]at k9;exact k9
  . exact i4 h n H _ b z V.symm ahr (λW k=>C6 k n H Y)
  . exact i4 h n H _ b z V.symm ahr (λW k=>C7 k n H C hN Y)
  . exact i4 h n H _ b z V.symm ahr (λW k=>C8 k (ab rfl rfl) n Y)
  . exact i4 h n H _ b z V.symm ahr (λW k=>zB k n H Y)
  . exact i4 h n H _ b z V.symm ahr (λW k=>zC k n H C Y)
end
end
end Go.Proofs.YtglokdbiggbkjaaGreat
