/- Joined texts. -/
import Derived.Test.YtglokdbiggbkjaaGreatMgLocksSafe0
import Derived.Test.YtglokdbiggbkjaaGreatMgLocksSafe4
import Derived.Test.YtglokdbiggbkjaaGreatMgLocksSafe9
import Derived.Test.YtglokdbiggbkjaaGreatMgLocksSafe22
set_option linter.unusedVariables false
set_option linter.unusedSimpArgs false
set_option maxRecDepth 100000
set_option maxHeartbeats 16000000
namespace Go.Proofs.YtglokdbiggbkjaaGreat
section
open Go
section
variable{c:CoC}{n N:Nat}{ml:Nat->Nat}{x:Nu}{B:Int}
theorem uF{p:Sp}(h:¬(p.a=1/\(p.pc=2\/p.pc=3\/p.pc=6\/p.pc=10\/p.pc=11))):ji p=false:=decide_eq_false h
theorem E7{p:Sp}(h:p.a=1/\(p.pc=2\/p.pc=3\/p.pc=6\/p.pc=10\/p.pc=11)):ji p=true:=decide_eq_true h
theorem NuI.ask (h:NuI c n N ml x)(y:cp c n N ml){i:Nat}(hi:i<n)(r:Bool):NuI c n N ml (cy c x i r):=by
 unfold cy;split
 ·rename_i h0;have hk:=h.k i hi;have ht:(sv x.st.T i).pc=0:=by unfold gL at hk;omega
  have hb:ji (sv x.U i)=false:=uF QX;split;·exact h.upd hi h.m (λ_ _=>rfl) (.inr (.inl ⟨rfl,.inl rfl,ht⟩)) (eo h hi Ry (λ_ _=>rfl)) (λj hj _ hw=>h.fl j hj hw) (λhw=>by unfold wrP at hw;simp at hw) (λ_ _=>Int.le_refl _) (λhr=>by unfold eZ at hr;simp at hr) (λ_ _ _ _ _=>rfl) (λe=>by simp at e) (λe=>by simp at e)
  ·have hm:=h.m.ask y hi;have hs:=gq c x.st i;have hT:=(gZ (c:=c) (j:=i) h.m.v hi).2 ht;exact h.upd hi hm (λj hj=>(gZ (c:=c) h.m.v hi).1 hj) (.inr (.inr (.inr (.inr (.inr (.inl ⟨rfl,rfl,by omega,by omega⟩)))))) (by rw[hs];exact eo h hi Ry (λ_ _=>rfl)) (λj hj _ hw=>by rw[hs];exact h.fl j hj hw) (λhw=>by unfold wrP at hw;simp at hw) (λa _=>by rw[hs];exact Int.le_refl _) (λhr=>by unfold eZ at hr;simp at hr) (λ_ _ _ _ _=>rfl) (λ_ e=>by simp at e) (λ_ e=>by simp at e)
 ·exact h
theorem NuI.leave (h:NuI c n N ml x){i:Nat}(hi:i<n):NuI c n N ml (aJ x i):=by
 unfold aJ;split
 ·rename_i h10;have hk:=h.k i hi;obtain⟨p,hp⟩:∃p,p=sv x.U i:=⟨_,rfl⟩;have hw0:=h.fl i hi;rw[<-hp]at hk h10 hw0 ⊢;have hcase:(p.a=1/\(sv x.st.T i).pc=0)\/(p.a=0/\(sv x.st.T i).pc=10):=by unfold gL at hk;omega
  obtain⟨pc,u,b,z⟩:=p;simp only at h10 hcase;subst h10;rcases hcase with⟨rfl,ht⟩|⟨rfl,ht⟩
  ·refine h.upd hi h.m (λ_ _=>rfl) (.inr (.inl ⟨rfl,.inr (.inr (.inr (.inr rfl))),ht⟩)) (eo h hi Q7 (λ_ _=>rfl)) (λj hj _ hw=>h.fl j hj hw) (λhw=>by unfold wrP at hw;simp at hw) (λ_ _=>Int.le_refl _) (λhr=> .inl (by rw[<-hp];exact⟨rfl,.inr (.inl rfl)⟩)) (λ_ _ _ _ _=>rfl) (λe=>by simp at e) (λe=>by simp at e)
  ·refine h.upd hi h.m (λ_ _=>rfl) (.inr (.inr (.inr (.inr (.inr (.inr (.inl ⟨rfl,.inr (.inr (.inr rfl)),ht⟩))))))) (eo h hi Q7 (λ_ _=>rfl)) (λj hj _ hw=>h.fl j hj hw) (λ_=>hw0 ⟨rfl,.inr (.inl rfl)⟩) (λ_ _=>Int.le_refl _) (λhr=>by unfold eZ at hr;simp at hr) (λ_ _ _ _ _=>rfl) (λ_ e=>by simp at e) (λ_ e=>by simp at e)
 ·exact h
theorem gJ (s:Ar)(d:Dr):(ah s d).1.W=s.W:=by
 unfold ah;split
 ·split;·exact aM _ _
  ·exact aM _ _
 ·rfl
theorem NuI.step (h:NuI c n N ml x) (y:cp c n N ml) (l:NuL c N x.st.s.W) (hB:CoB c B x.st) (hB0:40<=B) (hB1:B<=1000000000000) {i:Nat} (hi:i<n):NuI c n N ml (cB c N x i):=by
  have hn:=(y.nd i hi).1;have hnn:∀j,j<n->c.node j<N:=λj hj=>(y.nd j hj).1;have hk:=h.k i hi;have hw0:=h.fl i hi;have hdr:=h.dr i hi;obtain⟨p,hp⟩:∃p,p=sv x.U i:=⟨_,rfl⟩;have oth:(sv x.st.T i).pc=10->∀j,j<n->j≠i->¬wrP (sv x.U j):=λht j hj e hw=>e (h.one y hj hi (Io (h.k j hj) hw) ht);have oth9:(sv x.st.T i).pc=10->∀j,j<n->j≠i->(sv x.U j).a=0->(sv x.U j).pc=9->False:=λht j hj e h0 h9=>oth ht j hj e ⟨h0,.inl h9⟩;have bA:=hB.w.ld QX (gaA (c.node i));have bW:=hB.w.ld QX (gaW (c.node i));have wA:IntKind.i64.wrap (ldW x.st.s.W (gaA (c.node i))+1)=ldW x.st.s.W (gaA (c.node i))+1:=IntWalk.i64_in _ QX;have wW:IntKind.i64.wrap (ldW x.st.s.W (gaW (c.node i))+1)=ldW x.st.s.W (gaW (c.node i))+1:=IntWalk.i64_in _ QX;have lA:=uh h y l (z:=gaA (c.node i)) ⟨(eH hn).1,by have:=(eH hn).2;omega⟩ (ldW x.st.s.W (gaA (c.node i))+1) (s':=addA x.st.s (gaA (c.node i)) 1) (by rw[dR,wA]);have lW:=uh h y l (z:=gaW (c.node i)) ⟨(bB hn).1,by have:=(bB hn).2;omega⟩ (ldW x.st.s.W (gaW (c.node i))+1) (s':=addA x.st.s (gaW (c.node i)) 1) (by rw[dR,wW]);have lF:=λv=>uh h y l (z:=nuFl N) ⟨by unfold nuFl;omega,Int.le_refl _⟩ v (s':=ac x.st.s (nuFl N) v) (aw _ _ _);have fA:ldW (addA x.st.s (gaA (c.node i)) 1).W (nuFl N)=ldW x.st.s.W (nuFl N):=by rw[lA.1,if_neg (by have:=(eH hn).2;omega)]
  have fW:ldW (addA x.st.s (gaW (c.node i)) 1).W (nuFl N)=ldW x.st.s.W (nuFl N):=by rw[lW.1,if_neg (by have:=(bB hn).2;omega)]
  have HA:∀a,a<N->ldW x.st.s.W (gaW a)<=ldW (addA x.st.s (gaA (c.node i)) 1).W (gaW a):=λa _=>by rw[lA.1,if_neg (by unfold gaA gaW;omega)];exact Int.le_refl _
  have HW:∀a,a<N->ldW x.st.s.W (gaW a)<=ldW (addA x.st.s (gaW (c.node i)) 1).W (gaW a):=λa _=>by exact Kf
  have HF:∀v a,a<N->ldW x.st.s.W (gaW a)<=ldW (ac x.st.s (nuFl N) v).W (gaW a):=λv a ha=>by rw[(lF v).1,if_neg Q9];exact Int.le_refl _
  have SF:∀v q,q<nuFl N->ldW (ac x.st.s (nuFl N) v).W q=ldW x.st.s.W q:=λv q hq=>by rw[(lF v).1,if_neg QX]
  have mS:=h.m.step y hB QX QX hi;have lS:=h.m.stepLow y hB QX QX hi;have lS':∀q,q<=nuFl N->ldW (ak c x.st i).s.W q=ldW x.st.s.W q:=λq hq=>lS q Sa;have tS:∀j,j≠i->sv (ak c x.st i).T j=sv x.st.T j:=λj hj=>ni h.m.v hi hj;have aS:=ly h.m.v hi;unfold cB;rw[<-hp];rw[<-hp]at hk hw0 hdr;split;· exact h
  rename_i hne;split
  · rename_i h2
    obtain⟨pc,u,b,z⟩:=p
    simp only at h2
    subst h2
    have hk':u=1/\(sv x.st.T i).pc=0:=by unfold gL at hk;simp at hk;exact hk
    obtain⟨rfl,ht⟩:=hk'
    have e:(ae x.st.s (nuFl N)).W=x.st.s.W:=aM _ _
    refine h.upd hi (AB h y e) (λ_ _=>rfl) ?_ (eo h hi ?_ (λq _=>by show ldW (ae _ _).W q=_;rw[e])) (λj hj _ hw=>by show ldW (ae _ _).W _≠0;rw[e];exact h.fl j hj hw) (λhw=>by unfold wrP at hw;simp at hw) (λa _=>by show _<=ldW (ae _ _).W _;rw[e];exact Int.le_refl _) (λhr=> .inr (λj hj _ hw=>?_)) (λ_ _ _ _ _=>rfl) (λe=>by simp at e) (λe=>by simp at e)
    · refine .inr (.inl ⟨rfl,?_,ht⟩)
      simp only
      split
      · exact .inr (.inr (.inr (.inl rfl)))
      · exact .inr (.inr (.inl rfl))
    · rw[<-hp]
      simp only
      split<;>rfl
    · have hf:=h.fl j hj hw
      unfold eZ at hr
      simp only at hr
      rw[if_neg hf]at hr
      omega
  rename_i h2;have hT10:=oth;unfold gL at hk;obtain⟨pc,u,b,z⟩:=p;simp only at hk hne h2 hw0 hdr
  have hcs:(u=1/\pc=1/\(sv x.st.T i).pc=0)\/(u=1/\pc=3/\(sv x.st.T i).pc=0)\/(u=1/\pc=11/\(sv x.st.T i).pc=0)\/(u=1/\pc=4/\0<(sv x.st.T i).pc/\(sv x.st.T i).pc<10)\/(u=1/\pc=5/\(sv x.st.T i).pc=10)\/(u=1/\pc=6/\10<(sv x.st.T i).pc)\/
      (u=0/\pc=7/\0<(sv x.st.T i).pc/\(sv x.st.T i).pc<10)\/(u=0/\pc=8/\(sv x.st.T i).pc=10)\/(u=0/\pc=9/\(sv x.st.T i).pc=10)\/(u=0/\pc=12/\(sv x.st.T i).pc=10)\/(u=0/\pc=13/\10<(sv x.st.T i).pc):=by
    rcases hk with⟨q1,q2⟩|⟨q1,q2,q3⟩|⟨q1,q2,q3⟩|⟨q1,q2,q3⟩|⟨q1,q2,q3⟩|⟨q1,q2,q3⟩|⟨q1,q2,q3⟩|⟨q1,q2,q3⟩
    · exact absurd (.inl q1) hne
    · rcases q2 with q2|q2|q2|q2|q2
      · exact .inl ⟨q1,q2,q3⟩
      · exact absurd q2 h2
      · exact .inr (.inl ⟨q1,q2,q3⟩)
      · exact absurd (.inr q2) hne
      · exact .inr (.inr (.inl ⟨q1,q2,q3⟩))
    · exact .inr (.inr (.inr (.inl ⟨q1,q2,q3⟩)))
    · exact .inr (.inr (.inr (.inr (.inl ⟨q1,q2,q3⟩))))
    · exact .inr (.inr (.inr (.inr (.inr (.inl ⟨q1,q2,q3⟩)))))
    · exact .inr (.inr (.inr (.inr (.inr (.inr (.inl ⟨q1,q2,q3⟩))))))
    · rcases q2 with q2|q2|q2|q2
      · exact .inr (.inr (.inr (.inr (.inr (.inr (.inr (.inl ⟨q1,q2,q3⟩)))))))
      · exact .inr (.inr (.inr (.inr (.inr (.inr (.inr (.inr (.inl ⟨q1,q2,q3⟩))))))))
      · exact absurd (.inr q2) hne
      · exact .inr (.inr (.inr (.inr (.inr (.inr (.inr (.inr (.inr (.inl ⟨q1,q2,q3⟩)))))))))
    · exact .inr (.inr (.inr (.inr (.inr (.inr (.inr (.inr (.inr (.inr (⟨q1,q2,q3⟩))))))))))
  clear hk;rcases hcs with⟨rfl,rfl,ht⟩|⟨rfl,rfl,ht⟩|⟨rfl,rfl,ht⟩|⟨rfl,rfl,ht⟩|⟨rfl,rfl,ht⟩|⟨rfl,rfl,ht⟩|⟨rfl,rfl,ht⟩|⟨rfl,rfl,ht⟩|⟨rfl,rfl,ht⟩|⟨rfl,rfl,ht⟩|⟨rfl,rfl,ht⟩
  · show NuI c n N ml ⟨onA x.st (addA x.st.s (gaA (c.node i)) 1),x.d,x.U.set i ⟨2,1,b,z⟩⟩
    exact h.upd (p':=⟨2,1,b,z⟩) hi lA.2 (λ_ _=>rfl) (.inr (.inl ⟨rfl,.inr (.inl rfl),ht⟩)) (FU h hnn hi Q7 rfl lA.1) (λj hj _ hw=>by rw[show ldW (onA x.st (addA x.st.s (gaA (c.node i)) 1)).s.W (nuFl N)=_ from fA];exact h.fl j hj hw) (λhw=>by unfold wrP at hw;simp at hw) HA (λhr=>by unfold eZ at hr;simp at hr) (λ_ _ _ _ _=>rfl) (λe=>by simp at e) (λe=>by simp at e)
  · show NuI c n N ml ⟨bD c (onA x.st (addA x.st.s (gaW (c.node i)) 1)) i,x.d,x.U.set i ⟨4,1,b,z⟩⟩
    have hm:=lW.2.ask y hi
    have hs:=gq c (onA x.st (addA x.st.s (gaW (c.node i)) 1)) i
    have hT:=gZ (c:=c) (st:=onA x.st (addA x.st.s (gaW (c.node i)) 1)) (j:=i) lW.2.v hi
    have hT':(sv (bD c (onA x.st (addA x.st.s (gaW (c.node i)) 1)) i).T i).pc=1:=hT.2 ht
    refine h.upd (p':=⟨4,1,b,z⟩) hi hm (λj hj=>(gZ (c:=c) (st:=onA x.st (addA x.st.s (gaW (c.node i)) 1)) lW.2.v hi).1 hj) (.inr (.inr (.inl ⟨rfl,rfl,by omega,by omega⟩))) ?_ (λj hj _ hw=>?_) (λhw=>by unfold wrP at hw;simp at hw) (λa ha=>?_) (λhr=>by unfold eZ at hr;simp at hr) (λ_ _ _ _ _=>rfl) (λe=>by simp at e) (λe=>by simp at e)
    · show ∀a,a<N->ldW (bD c _ i).s.W _=_
      rw[hs]
      exact DE h hnn hi Q7 rfl lW.1
    · show ldW (bD c _ i).s.W _≠0
      rw[hs]
      rw[show ldW (onA x.st (addA x.st.s (gaW (c.node i)) 1)).s.W (nuFl N)=_ from fW];exact h.fl j hj hw
    · show _<=ldW (bD c _ i).s.W _
      rw[hs];exact HW a ha
  · show NuI c n N ml ⟨onA x.st (addA x.st.s (gaW (c.node i)) 1),x.d,x.U.set i ⟨0,1,b,z⟩⟩
    exact h.upd (p':=⟨0,1,b,z⟩) hi lW.2 (λ_ _=>rfl) (.inl ⟨rfl,ht⟩) (DE h hnn hi Q7 rfl lW.1) (λj hj _ hw=>by rw[show ldW (onA x.st (addA x.st.s (gaW (c.node i)) 1)).s.W (nuFl N)=_ from fW];exact h.fl j hj hw) (λhw=>by unfold wrP at hw;simp at hw) HW (λhr=>by unfold eZ at hr;simp at hr) (λ_ _ _ _ _=>rfl) (λe=>by simp at e) (λe=>by simp at e)
  · have a1:=aS.1 ht
    show NuI c n N ml ⟨ak c x.st i,x.d,x.U.set i (nuTo ⟨4,1,b,z⟩ (bf (sv x.st.T i) (sv (ak c x.st i).T i)))⟩
    rw[a1.2]
    by_cases e10:(sv (ak c x.st i).T i).pc=10
    · rw[decide_eq_true e10]
      exact h.upd (p':=⟨5,1,b,z⟩) hi mS tS (.inr (.inr (.inr (.inl ⟨rfl,rfl,e10⟩)))) (eo h hi Q7 (λq hq=>lS' q QX)) (λj hj _ hw=>by rw[lS' _ (Int.le_refl _)];exact h.fl j hj hw) (λhw=>by unfold wrP at hw;simp at hw) (λa ha=>by rw[lS' _ Q9];exact Int.le_refl _) (λhr=>by unfold eZ at hr;simp at hr) (λ_ _ _ _ _=>rfl) (λe=>by simp at e) (λe=>by simp at e)
    · rw[decide_eq_false e10]
      exact h.upd (p':=⟨4,1,b,z⟩) hi mS tS (.inr (.inr (.inl ⟨rfl,rfl,a1.1.1,by omega⟩))) (eo h hi Rd (λq hq=>lS' q QX)) (λj hj _ hw=>by rw[lS' _ (Int.le_refl _)];exact h.fl j hj hw) (λhw=>by unfold wrP at hw;simp at hw) (λa ha=>by rw[lS' _ Q9];exact Int.le_refl _) (λhr=>by unfold eZ at hr;simp at hr) (λ_ _ _ _ _=>rfl) (λe=>by simp at e) (λe=>by simp at e)
  · show NuI c n N ml ⟨ay (onA x.st (addA x.st.s (gaA (c.node i)) 1)) i,x.d,x.U.set i ⟨6,1,b,z⟩⟩
    have hm:=lA.2.leave y hi
    have hs:=fu (onA x.st (addA x.st.s (gaA (c.node i)) 1)) i
    have hT':(sv (ay (onA x.st (addA x.st.s (gaA (c.node i)) 1)) i).T i).pc=11:=(eM (st:=onA x.st (addA x.st.s (gaA (c.node i)) 1)) (j:=i) lA.2.v hi).2 ht
    refine h.upd (p':=⟨6,1,b,z⟩) hi hm (λj hj=>(eM (st:=onA x.st (addA x.st.s (gaA (c.node i)) 1)) lA.2.v hi).1 hj) (.inr (.inr (.inr (.inr (.inl ⟨rfl,rfl,by omega⟩))))) ?_ (λj hj _ hw=>?_) (λhw=>by unfold wrP at hw;simp at hw) (λa ha=>?_) (λ_=> .inr (oth ht)) (λ_ _ _ _ _=>rfl) (λe=>by simp at e) (λe=>by simp at e)
    · show ∀a,a<N->ldW (ay _ i).s.W _=_
      rw[hs]
      exact FU h hnn hi Q7 rfl lA.1
    · show ldW (ay _ i).s.W _≠0
      rw[hs]
      rw[show ldW (onA x.st (addA x.st.s (gaA (c.node i)) 1)).s.W (nuFl N)=_ from fA];exact h.fl j hj hw
    · show _<=ldW (ay _ i).s.W _
      rw[hs];exact HA a ha
  · have a1:=aS.2 ht
    show NuI c n N ml ⟨ak c x.st i,x.d,x.U.set i (nuTo ⟨6,1,b,z⟩ (bf (sv x.st.T i) (sv (ak c x.st i).T i)))⟩
    rw[a1.2]
    have hst:eZ (sv x.U i):=by rw[<-hp];exact⟨rfl,.inl rfl⟩
    by_cases e10:(sv (ak c x.st i).T i).pc=0
    · rw[decide_eq_true e10]
      exact h.upd (p':=⟨10,1,b,z⟩) hi mS tS (.inr (.inl ⟨rfl,.inr (.inr (.inr (.inl rfl))),e10⟩)) (eo h hi Q7 (λq hq=>lS' q QX)) (λj hj _ hw=>by rw[lS' _ (Int.le_refl _)];exact h.fl j hj hw) (λhw=>by unfold wrP at hw;simp at hw) (λa ha=>by rw[lS' _ Q9];exact Int.le_refl _) (λ_=> .inl hst) (λ_ _ _ _ _=>rfl) (λe=>by simp at e) (λe=>by simp at e)
    · rw[decide_eq_false e10]
      exact h.upd (p':=⟨6,1,b,z⟩) hi mS tS (.inr (.inr (.inr (.inr (.inl ⟨rfl,rfl,by omega⟩))))) (eo h hi Rd (λq hq=>lS' q QX)) (λj hj _ hw=>by rw[lS' _ (Int.le_refl _)];exact h.fl j hj hw) (λhw=>by unfold wrP at hw;simp at hw) (λa ha=>by rw[lS' _ Q9];exact Int.le_refl _) (λ_=> .inl hst) (λ_ _ _ _ _=>rfl) (λe=>by simp at e) (λe=>by simp at e)
  · have a1:=aS.1 ht
    show NuI c n N ml ⟨ak c x.st i,x.d,x.U.set i (nuTo ⟨7,0,b,z⟩ (bf (sv x.st.T i) (sv (ak c x.st i).T i)))⟩
    rw[a1.2]
    by_cases e10:(sv (ak c x.st i).T i).pc=10
    · rw[decide_eq_true e10]
      exact h.upd (p':=⟨8,0,b,z⟩) hi mS tS (.inr (.inr (.inr (.inr (.inr (.inr (.inl ⟨rfl,.inl rfl,e10⟩))))))) (eo h hi Q7 (λq hq=>lS' q QX)) (λj hj _ hw=>by rw[lS' _ (Int.le_refl _)];exact h.fl j hj hw) (λhw=>by unfold wrP at hw;simp at hw) (λa ha=>by rw[lS' _ Q9];exact Int.le_refl _) (λhr=>by unfold eZ at hr;simp at hr) (λ_ _ _ _ _=>rfl) (λ_ e=>by simp at e) (λ_ e=>by simp at e)
    · rw[decide_eq_false e10]
      exact h.upd (p':=⟨7,0,b,z⟩) hi mS tS (.inr (.inr (.inr (.inr (.inr (.inl ⟨rfl,rfl,a1.1.1,by omega⟩)))))) (eo h hi Rd (λq hq=>lS' q QX)) (λj hj _ hw=>by rw[lS' _ (Int.le_refl _)];exact h.fl j hj hw) (λhw=>by unfold wrP at hw;simp at hw) (λa ha=>by rw[lS' _ Q9];exact Int.le_refl _) (λhr=>by unfold eZ at hr;simp at hr) (λ_ _ _ _ _=>rfl) (λ_ e=>by simp at e) (λ_ e=>by simp at e)
  · show NuI c n N ml ⟨onA x.st (ac x.st.s (nuFl N) 1),dM x.d N false,x.U.set i ⟨9,0,b,z⟩⟩
    have hN:1<=N:=by omega
    refine h.upd (p':=⟨9,0,b,z⟩) hi (lF 1).2 (λ_ _=>rfl) (.inr (.inr (.inr (.inr (.inr (.inr (.inl ⟨rfl,.inr (.inl rfl),ht⟩))))))) (eo h hi Q7 (SF 1)) (λj hj e hw=>absurd hw (oth ht j hj e)) (λ_=>by show ldW (ac _ _ _).W _≠0;rw[(lF 1).1,if_pos rfl];decide) (HF 1) (λhr=>by unfold eZ at hr;simp at hr) (λj hj e h0 h9=>(oth9 ht j hj e h0 h9).elim) (λ_ _=>?_) (λ_ e=>by simp at e)
    exact Kg
  · obtain⟨⟨q1,q2,q3,q4⟩,q5,q6⟩:=hdr rfl rfl
    have hfl:=hw0 ⟨rfl,.inl rfl⟩
    have hW:=gJ x.st.s x.d
    have hs:=svS (show i<x.U.length by rw[h.lU];exact hi)
    have nr:∀pc' j,eZ (sv (x.U.set i ⟨pc',0,b,z⟩) j)->j≠i/\eZ (sv x.U j):=λpc' j hr=>by
      rw[hs]at hr
      split at hr
      · unfold eZ at hr;simp at hr
      · rename_i e;exact⟨e,hr⟩
    have go:∀(pc':Int) (d':Dr),(pc'=9\/pc'=10)->(pc'=9->DrI c n N d' x.st.s.W (x.U.set i ⟨pc',0,b,z⟩))->(pc'=10->∀j,j<n->j≠i->¬eZ (sv x.U j))->NuI c n N ml ⟨onA x.st (ah x.st.s x.d).1,d',x.U.set i ⟨pc',0,b,z⟩⟩:=λpc' d' hpc o9 o10=>by
      refine h.upd (p':=⟨pc',0,b,z⟩) hi (AB h y hW) (λ_ _=>rfl) (.inr (.inr (.inr (.inr (.inr (.inr (.inl ⟨rfl,?_,ht⟩))))))) (eo h hi ?_ (λq _=>by show ldW (ah _ _).1.W q=_;rw[hW])) (λj hj _ hw=>by show ldW (ah _ _).1.W _≠0;rw[hW];exact h.fl j hj hw) (λ_=>by show ldW (ah _ _).1.W _≠0;rw[hW];exact hfl) (λa _=>by show _<=ldW (ah _ _).1.W _;rw[hW];exact Int.le_refl _) (λhr=>by unfold eZ at hr;simp at hr) (λj hj e h0 h9=>(oth9 ht j hj e h0 h9).elim) (λ_ h9=>?_) (λ_ h10=>o10 h10)
      · rcases hpc with rfl|rfl
        · exact .inr (.inl rfl)
        · exact .inr (.inr (.inl rfl))
      · rw[<-hp,uF QY,uF QY]
      · show DrI c n N d' (ah _ _).1.W _
        rw[hW];exact o9 h9
    show NuI c n N ml ⟨onA x.st (ah x.st.s x.d).1,(ah x.st.s x.d).2.1,x.U.set i (nuTo ⟨9,0,b,z⟩ (ah x.st.s x.d).2.2)⟩
    by_cases hsec:x.d.second=true
    · have e1:ah x.st.s x.d=(ae x.st.s (gaA x.d.at_),dL x.st.s x.d):=by unfold ah;rw[q1,hsec];rfl
      have e2:(ah x.st.s x.d).2=dL x.st.s x.d:=by rw[e1]
      rw[e2]
      unfold dL
      by_cases hv:ldW x.st.s.W (gaA x.d.at_)=x.d.o
      · rw[if_neg (by simpa using hv)]
        have hg:=h.g x.d.at_ q3
        have hout:=q5 hsec
        have hcz:ks c n x.U x.d.at_=0:=by omega
        have hno:∀j,j<n->eZ (sv x.U j)->c.node j≠x.d.at_:=λj hj hr e=>by
          have:0<ks c n x.U x.d.at_:=jn (P:=λj=>decide (c.node j=x.d.at_)&&ji (sv x.U j)) hj (by
            simp only[Bool.and_eq_true,decide_eq_true_eq]
            refine⟨e,E7 ⟨hr.1,?_⟩⟩
            rcases hr.2 with h1|h1|h1
            · exact .inr (.inr (.inl h1))
            · exact .inr (.inr (.inr (.inl h1)))
            · exact .inr (.inr (.inr (.inr h1))))
          omega
        by_cases hend:x.d.at_+1=x.d.lim
        · rw[if_pos hend]
          refine go 10 _ (.inr rfl) (λe=>by simp at e) (λ_ j hj e hr=>?_)
          have h1:=q6 j hj hr
          have h2:=hno j hj hr
          have h3:=hnn j hj
          omega
        · rw[if_neg hend]
          refine go 9 _ (.inl rfl) (λ_=>⟨⟨q1,q2,by show x.d.at_+1<N;omega,q4⟩,λe=>by simp at e,λj hj hr=>?_⟩) (λe=>by simp at e)
          have hr':=(nr 9 j hr).2
          have h1:=q6 j hj hr'
          have h2:=hno j hj hr'
          show x.d.at_+1<=c.node j
          omega
      · rw[if_pos hv,if_neg (by rw[q2];decide)]
        exact go 9 _ (.inl rfl) (λ_=>⟨⟨q1,q2,q3,q4⟩,λe=>by simp at e,λj hj hr=>q6 j hj (nr 9 j hr).2⟩) (λe=>by simp at e)
    · have e1:ah x.st.s x.d=(ae x.st.s (gaW x.d.at_),{x.d with o:=ldW x.st.s.W (gaW x.d.at_),second:=true},false):=by unfold ah;rw[if_pos q1,if_neg hsec]
      have e2:(ah x.st.s x.d).2=({x.d with o:=ldW x.st.s.W (gaW x.d.at_),second:=true},false):=by rw[e1]
      rw[e2]
      exact go 9 _ (.inl rfl) (λ_=>⟨⟨q1,q2,q3,q4⟩,λ_=>Int.le_refl _,λj hj hr=>q6 j hj (nr 9 j hr).2⟩) (λe=>by simp at e)
  · show NuI c n N ml ⟨ay (onA x.st (ac x.st.s (nuFl N) 0)) i,x.d,x.U.set i ⟨13,0,b,z⟩⟩
    have hm:=(lF 0).2.leave y hi
    have hs:=fu (onA x.st (ac x.st.s (nuFl N) 0)) i
    have hT':(sv (ay (onA x.st (ac x.st.s (nuFl N) 0)) i).T i).pc=11:=(eM (st:=onA x.st (ac x.st.s (nuFl N) 0)) (j:=i) (lF 0).2.v hi).2 ht
    refine h.upd (p':=⟨13,0,b,z⟩) hi hm (λj hj=>(eM (st:=onA x.st (ac x.st.s (nuFl N) 0)) (lF 0).2.v hi).1 hj) (.inr (.inr (.inr (.inr (.inr (.inr (.inr ⟨rfl,rfl,by omega⟩))))))) ?_ (λj hj e hw=>absurd hw (oth ht j hj e)) (λhw=>by unfold wrP at hw;simp at hw) (λa ha=>?_) (λhr=>by unfold eZ at hr;simp at hr) (λ_ _ _ _ _=>rfl) (λ_ e=>by simp at e) (λ_ e=>by simp at e)
    · show ∀a,a<N->ldW (ay _ i).s.W _=_
      rw[hs]
      exact eo h hi Q7 (SF 0)
    · show _<=ldW (ay _ i).s.W _
      rw[hs];exact HF 0 a ha
  · have a1:=aS.2 ht
    show NuI c n N ml ⟨ak c x.st i,x.d,x.U.set i (nuTo ⟨13,0,b,z⟩ (bf (sv x.st.T i) (sv (ak c x.st i).T i)))⟩
    rw[a1.2]
    by_cases e10:(sv (ak c x.st i).T i).pc=0
    · rw[decide_eq_true e10]
      exact h.upd (p':=⟨0,0,b,z⟩) hi mS tS (.inl ⟨rfl,e10⟩) (eo h hi Q7 (λq hq=>lS' q QX)) (λj hj _ hw=>by rw[lS' _ (Int.le_refl _)];exact h.fl j hj hw) (λhw=>by unfold wrP at hw;simp at hw) (λa ha=>by rw[lS' _ Q9];exact Int.le_refl _) (λhr=>by unfold eZ at hr;simp at hr) (λ_ _ _ _ _=>rfl) (λ_ e=>by simp at e) (λ_ e=>by simp at e)
    · rw[decide_eq_false e10]
      exact h.upd (p':=⟨13,0,b,z⟩) hi mS tS (.inr (.inr (.inr (.inr (.inr (.inr (.inr ⟨rfl,rfl,by omega⟩))))))) (eo h hi Rd (λq hq=>lS' q QX)) (λj hj _ hw=>by rw[lS' _ (Int.le_refl _)];exact h.fl j hj hw) (λhw=>by unfold wrP at hw;simp at hw) (λa ha=>by rw[lS' _ Q9];exact Int.le_refl _) (λhr=>by unfold eZ at hr;simp at hr) (λ_ _ _ _ _=>rfl) (λ_ e=>by simp at e) (λ_ e=>by simp at e)
end
end
section
open Go.RowKit
def dr0:Dr:=⟨0,0,false,false,false,0,false⟩
theorem Ep (w:World)(gg:Nat):Calls Tryz.prog 175 #[↑gg] w λe w'=>∃d,e= .returned (.pointer (some ⟨d,0,none⟩))/\Below w.heap.size w w'/\Blk w' d 367 (drC gg dr0)/\d=w.heap.size:=by go_enter Tryz.func175,Tryz.ntmps175;go_wp2;go_ret;exact⟨_,rfl,(Below.refl _ _).alloc (Nat.le_refl _) _,Blk.new w 367 (drC gg dr0),rfl⟩
def smA (s:Ar)(N:Nat):Ar:=bi (bi s (2*N)) 1
end
section
open Go Go.RowKit
theorem svR (k i:Nat):sv (List.replicate k Sp.zero) i=Sp.zero:=by exact Jn
section
variable{c:CoC}{n N L:Nat}{ml:Nat->Nat}{x:Nu}{st:Co}{B:Int}{o:Nat}
theorem bH.on (h:bH c n L B o st){s':Ar}{C:Int}(hC:B<=C)(hw:WdB C s')(ns:ez st.s s'):bH c n L C (o+1) (onA st s'):=
 ⟨⟨hw,(h.bd.mono hC).g,(h.bd.mono hC).l,(h.bd.mono hC).t⟩,h.v.ars s',by show s'.W.length=L;rw[ns.2,h.len],by show s'.ops<=o+1;have:=ns.1;have:=h.ops;omega⟩
theorem bH.up (h:bH c n L B o st){C:Int}(hC:B<=C){p:Nat}(hp:o<=p):bH c n L C p st:=⟨h.bd.mono hC,h.v,h.len,by have:=h.ops;omega⟩
theorem uq (s:Ar)(d:Dr):ez s (ah s d).1:=by
 unfold ah;split
 ·split;·exact fX _ _
  ·exact fX _ _
 ·exact⟨Nat.le_succ _,rfl⟩
theorem xY (h:bH c n L B o x.st)(k:kB c n N L)(hB:40<=B)(hB2:B<=1000000000000){i:Nat}(hi:i<n)(pc:Int):bH c n L (B+4) (o+1) (ij c N x i pc).1:=by
 have hadd:∀z,bH c n L (B+2) (o+1) (onA x.st (addA x.st.s z 1)):=λz=>h.on QX (h.bd.w.add1 QX QX z) (kQ _ _ _);have hst:∀z v,0<=v/\v<=1->bH c n L (B+2) (o+1) (onA x.st (ac x.st.s z v)):=λz v hv=>h.on QX ((h.bd.w.mono QX).store z v QX) (iJ _ _ _);have hask:∀{st'},bH c n L (B+2) (o+1) st'->bH c n L (B+4) (o+1) (bD c st' i):=λ{st'} q=>by exact Kh
 have hlv:∀{st'},bH c n L (B+2) (o+1) st'->bH c n L (B+4) (o+1) (ay st' i):=λ{st'} q=>by exact Ki
 unfold ij;split;·exact Kj
 split;·exact hask (hadd _)
 split;·exact hlv (hadd _)
 split;·exact Kk
 split;·exact h.on QX ((h.bd.w.mono QX).same (gJ _ _)) (uq _ _)
 split;·exact Kj
 split;·exact hlv (hst _ _ QX)
 ·exact Kl
theorem x8 (h:bH c n L B o x.st)(k:kB c n N L)(hB:40<=B)(hB2:B<=1000000000000){i:Nat}(hi:i<n):bH c n L (B+4) (o+1) (cB c N x i).st:=by
 unfold cB;split;·exact h.up QX QX
 split;·exact h.on QX ((h.bd.w.mono QX).load _) (fX _ _)
 ·exact xY h k hB hB2 hi _
theorem kT (h:bH c n L B o x.st)(k:kB c n N L)(hB:40<=B){i:Nat}(hi:i<n)(r:Bool):bH c n L (B+4) o (cy c x i r).st/\(cy c x i r).st.s=x.st.s:=by
 unfold cy;split
 ·split;·exact⟨h.up QX (Nat.le_refl _),rfl⟩
  ·have q:=h.ask k QX hi;exact⟨⟨q.bd.mono QX,q.v,q.len,by show(bD c x.st i).s.ops<=o;rw[gq];exact h.ops⟩,gq _ _ _⟩
 ·exact⟨h.up QX (Nat.le_refl _),rfl⟩
theorem kz (x:Nu)(i:Nat):(aJ x i).st=x.st:=by unfold aJ;split<;>rfl
structure NuK (c:CoC)(n N L:Nat)(ml:Nat->Nat):Prop where
 w:kB c n N L
 y:cp c n N ml
 tg:c.tg=2*(N:Int)+2
 len:2*(N:Int)+1<=(L:Int)
 N1:1<=N
structure NuS (c:CoC)(n N L:Nat)(ml:Nat->Nat)(B:Int)(x:Nu):Prop where
 i:NuI c n N ml x
 ok:bH c n L B x.st.s.ops x.st
def rm (c:CoC)(N:Nat)(x:Nu)(kd i:Int):Nu:=
 if okI x.U i then if kd=0 then cB c N x i.toNat else if kd=1 then cy c x i.toNat false else if kd=2 then aJ x i.toNat else if kd=3 then cy c x i.toNat true else x else x
theorem NuS.act (h:NuS c n N L ml B x) (k:NuK c n N L ml) (hB:40<=B) (hB2:B<=1000000000000) (kd i:Int):
    NuS c n N L ml (B+4) (rm c N x kd i)/\(rm c N x kd i).st.s.ops<=x.st.s.ops+1/\(kd≠0->(rm c N x kd i).st.s.ops=x.st.s.ops):=by
  have same:NuS c n N L ml (B+4) x:=⟨h.i,h.ok.mono QX⟩;unfold rm;split
  · rename_i hok;have hi:i.toNat<n:=(by exact Km);split;· rename_i k0;have q:=x8 h.ok k.w hB hB2 hi;refine⟨⟨h.i.step k.y ⟨k.tg,by rw[h.ok.len];exact k.len⟩ h.ok.bd hB hB2 hi,⟨q.bd,q.v,q.len,Nat.le_refl _⟩⟩,q.ops,λe=>absurd k0 e⟩
    split;· have q:=kT h.ok k.w hB hi false;refine⟨⟨h.i.ask k.y hi false,by rw[q.2];exact q.1⟩,by rw[q.2];omega,λ_=>by rw[q.2]⟩
    split;· have e:=kz x i.toNat;refine⟨⟨h.i.leave hi,by rw[e];exact same.ok⟩,by rw[e];omega,λ_=>by rw[e]⟩
    split;· have q:=kT h.ok k.w hB hi true;refine⟨⟨h.i.ask k.y hi true,by rw[q.2];exact q.1⟩,by rw[q.2];omega,λ_=>by rw[q.2]⟩
    · exact⟨same,by omega,λ_=>rfl⟩
  · exact⟨same,by omega,λ_=>rfl⟩
end
section
variable{kg kl par:Nat}{bud:Int}{P T:List Int}{s:Ar}
theorem wu (hs:s.W=[])(N:Nat):WdB 0 (smA s N)/\(smA s N).W.length=2*N+1:=by
 have e:(smA s N).W=(s.W++List.replicate (2*N) 0)++List.replicate 1 0:=rfl;rw[hs,List.nil_append]at e;refine⟨λv hv=>?_,by rw[e];simp⟩;rw[e]at hv;rcases List.mem_append.1 hv with h1|h1
 ·rw[(List.mem_replicate.1 h1).2];omega
 ·rw[(List.mem_replicate.1 h1).2];omega
theorem E3 (hc:a5 P T=0) (hkg:1<=kg/\kg<=5) (hkl:1<=kl/\kl<=5) (hp:1<=par/\par<=4) (hs:s.W=[]) (hN:1<=(ab P).length):
    NuK (eV kg kl par bud P T (smA s (ab P).length)) T.length (ab P).length (bz kg kl par P T (smA s (ab P).length)).s.W.length (mtQ P T):=by
  have hw:=uu (bud:=bud) (s:=smA s (ab P).length) hc hkg hkl hp;have hl:=(wu hs (ab P).length).2;have ht:(eV kg kl par bud P T (smA s (ab P).length)).tg=2*((ab P).length:Int)+2:=by show(((smA s (ab P).length).W.length+1:Nat):Int)=_;rw[hl];omega
  refine⟨hw,ui (bud:=bud) hc hkg hkl hp,ht,?_,hN⟩;have:=hw.tg;rw[ht]at this;omega
theorem Hz (hc:a5 P T=0) (hkg:1<=kg/\kg<=5) (hkl:1<=kl/\kl<=5) (hp:1<=par/\par<=4) (hs:s.W=[]):
    NuS (eV kg kl par bud P T (smA s (ab P).length)) T.length (ab P).length (bz kg kl par P T (smA s (ab P).length)).s.W.length (mtQ P T) 40 ⟨bz kg kl par P T (smA s (ab P).length),dr0,List.replicate T.length Sp.zero⟩/\(bz kg kl par P T (smA s (ab P).length)).s.ops<=s.ops+40:=by
  have hz:=wu hs (ab P).length;have h40:WdB 40 (smA s (ab P).length):=hz.1.mono QX;have hok:=nY (kg:=kg) (kl:=kl) (par:=par) (bud:=bud) hc h40;have hw:∀y:Int,y<=((smA s (ab P).length).W.length:Int)->ldW (bz kg kl par P T (smA s (ab P).length)).s.W y=0:=λy hy=>by exact Kn
  have hsv:∀i,sv (List.replicate T.length Sp.zero) i=Sp.zero:=svR _;refine⟨⟨⟨vO hc hkg hkl hp h40,by simp,λi hi=> .inl ⟨?_,?_⟩,λa ha=>?_,λi hi hw=>?_,λi hi h0 h9=>?_,λi hi h0 h9=>?_⟩,⟨hok.bd,hok.v,hok.len,Nat.le_refl _⟩⟩,hok.ops⟩;· show(sv (List.replicate T.length Sp.zero) i).pc=0;rw[hsv];rfl
  · show(sv (List.replicate T.length Sp.zero) i).pc=0;rw[hsv];rfl
  · have hc0:ks (eV kg kl par bud P T (smA s (ab P).length)) T.length (List.replicate T.length Sp.zero) a=0:=(by unfold ks i2;refine List.countP_eq_zero.2 (λj _=>?_);rw[hsv];simp[ji,Sp.zero]);show ldW _ _=ldW _ _+((ks _ _ (List.replicate T.length Sp.zero) a:Nat):Int);rw[hc0];have g1:=eH ha;have g2:=bB ha;unfold nuFl at g1 g2;have hl:=hz.2;rw[hw _ Rz,hw _ Rz];rfl
  · have hw':wrP (sv (List.replicate T.length Sp.zero) i):=hw;rw[hsv]at hw';unfold wrP Sp.zero at hw';simp at hw'
  · have h9':(sv (List.replicate T.length Sp.zero) i).pc=9:=h9;rw[hsv]at h9';simp[Sp.zero]at h9'
  · have h9':(sv (List.replicate T.length Sp.zero) i).pc=10:=h9;rw[hsv]at h9';simp[Sp.zero]at h9'
end
end
section
open Go Go.RowKit
structure mr where
 ty:TypeId
 pt:TypeId
 md:Int
 step:CoC->Nat->Nu->Nat->Nu
 ask:CoC->Nu->Nat->Bool->Nu
 ok:CoC->Nat->Nat->Nat->(Nat->Nat)->Int->Nu->Prop
def rwQ (q:Nat):Value:= ↑q
def rwC (F:mr)(l:Nat):Array Value:=#[.int .i64 F.md,.iface F.pt ↑l]
def rwV (q:Nat):Value:= .iface 192 (.agg #[↑q])
def mr.Act (F:mr)(B BC:Nat->Prop)(w:World)(a g:Nat)(X:SmX)(c:CoC)(P T:List Int)(x':Nu)(r:Bool)(e:Ending)(w':World):Prop:=
 e= .returned (.bool r)/\av F.ty B BC w' a g X c P T x'.st x'.d x'.U/\aa (SmS a g X) w w'
structure mr.Ok (F:mr)(c:CoC)(P T:List Int)(L:Nat):Prop where
 act:∀B x,F.ok c T.length (ab P).length L (mtQ P T) B x->40<=B->B<=1000000000000->∀i,i<T.length->
  (F.ok c T.length (ab P).length L (mtQ P T) (B+4) (F.step c (ab P).length x i)/\(F.step c (ab P).length x i).st.s.ops<=x.st.s.ops+1)/\
  (∀r,F.ok c T.length (ab P).length L (mtQ P T) (B+4) (F.ask c x i r))/\F.ok c T.length (ab P).length L (mtQ P T) (B+4) (aJ x i)
 mono:∀B B' x,F.ok c T.length (ab P).length L (mtQ P T) B x->B<=B'->F.ok c T.length (ab P).length L (mtQ P T) B' x
 lU:∀B x,F.ok c T.length (ab P).length L (mtQ P T) B x->x.U.length=T.length
 safe:∀B x,F.ok c T.length (ab P).length L (mtQ P T) B x->∀i j,i<T.length->j<T.length->(sv x.U i).pc=10->(sv x.U j).pc=10->(sv x.U i).a=0->j=i/\(sv x.U j).a=0
 link:∀B x,F.ok c T.length (ab P).length L (mtQ P T) B x->∀i,i<T.length->0<=(sv x.U i).pc/\((sv x.U i).pc≠0->(sv x.U i).a=0\/(sv x.U i).a=1)
 askS:∀x i r,(F.ask c x i r).st.s=x.st.s
 cS:∀(B BC:Nat->Prop) (w:World) (a g:Nat) (X:SmX) (q:Nat) (x:Nu) (BB:Int) (i:Nat),av F.ty B BC w a g X c P T x.st x.d x.U->F.ok c T.length (ab P).length L (mtQ P T) BB x->40<=BB/\BB<=10000000000->x.st.s.ops+1<=1000000000000->Blk w q 273 (rwC F X.l)->i<T.length->
  Calls Tryz.prog 356 #[rwQ q,.int .i64 i] w (F.Act B BC w a g X c P T (F.step c (ab P).length x i) (dA (sv x.U i) (sv (F.step c (ab P).length x i).U i)))
 cA:∀(B BC:Nat->Prop) (w:World) (a g:Nat) (X:SmX) (q:Nat) (x:Nu) (i:Nat) (r:Bool),av F.ty B BC w a g X c P T x.st x.d x.U->Blk w q 273 (rwC F X.l)->i<T.length->
  Calls Tryz.prog 352 #[rwQ q,.int .i64 i,.bool r] w (F.Act B BC w a g X c P T (F.ask c x i r) (decide ((sv x.U i).pc=0)))
 cL:∀(B BC:Nat->Prop) (w:World) (a g:Nat) (X:SmX) (q:Nat) (x:Nu) (i:Nat),av F.ty B BC w a g X c P T x.st x.d x.U->Blk w q 273 (rwC F X.l)->i<T.length->((sv x.U i).pc=10->(sv x.U i).a=0\/(sv x.U i).a=1)->
  Calls Tryz.prog 353 #[rwQ q,.int .i64 i] w (F.Act B BC w a g X c P T (aJ x i) (decide ((sv x.U i).pc=10)))
 cP:∀(B BC:Nat->Prop) (w:World) (a g:Nat) (X:SmX) (q:Nat) (x:Nu) (i:Nat),av F.ty B BC w a g X c P T x.st x.d x.U->Blk w q 273 (rwC F X.l)->i<T.length->
  Calls Tryz.prog 355 #[rwQ q,.int .i64 i] w λe w'=>e= .returned (aE (sv x.U i))/\Below w.heap.size w w'
structure RwB where
 B:Nat->Prop
 BC:Nat->Prop
 a:Nat
 g:Nat
 X:SmX
 q:Nat
 hi:Nat
theorem av.farR{ty:TypeId}{B BC:Nat->Prop}{w w':World}{a g:Nat}{X:SmX}{c:CoC}{P T:List Int}{st:Co}{d:Dr}{U:List Sp}{S:List Nat}(h:av ty B BC w a g X c P T st d U)(t:aa S w w')(h1:∀i∈S,¬B i/\¬eK X.x BC i/\i≠X.l/\i≠X.gg)(h2:∀i∈S,i∉SmS a g X):av ty B BC w' a g X c P T st d U:=by have no:∀j,j∈SmS a g X->j∉S:=λj hj hm=>h2 j hm hj;have ha:=no a (by simp[SmS,CoS]);have hg:=no g (by simp[SmS,CoS]);have hA:=h.gd.ar.turns t ha hg;have k:=h.co.arAway t (s':=st.s) hA (λj hj=> .inr (.inr (h1 j hj).2.1));have hgg:X.gg∉S:=λm=>(h1 _ m).2.2.2 rfl;exact {h with lk:=t.blk h.lk (λm=>(h1 _ m).2.2.1 rfl),gd:={h.gd with ar:=hA,ga:=t.blk h.gd.ga hgg,dr:=t.blk h.gd.dr (no _ (by simp[SmS]))},tb:=h.tb.turns t (λj hj=>(h1 j hj).1),sp:=h.sp.turns t (no _ (by simp[SmS])),co:=k}
def EI (F:mr)(c:CoC)(P T:List Int)(L:Nat):LkM T.length where
 σ:=Nu
 β:=RwB
 ok:=λst N=>F.ok c T.length (ab P).length L (mtQ P T) (40+4*N) st/\st.st.s.ops<=N+1000
 ar:=λst=>st.st.s
 sp:=λst i=>sv st.U i
 cn:=λst i=>if (sv st.U i).pc=10 then 1 else 0
 rd:=true
 step:=F.step c (ab P).length
 ask:=F.ask c
 leave:=aJ
 hi:=λb=>b.hi
 fp:=λb=>SmS b.a b.g b.X
 is:=λb w a g lb st=>av F.ty b.B b.BC w a g b.X c P T st.st st.d st.U/\(b.a=a/\b.g=g)/\jk w lb T.length (10+F.md) (rwV b.q) (SmS b.a b.g b.X) b.hi/\(Blk w b.q 273 (rwC F b.X.l)/\b.q<b.hi/\b.q∉SmS b.a b.g b.X)/\∀i,b.B i\/eK b.X.x b.BC i\/i=b.X.l\/i=b.X.gg->i<b.hi
theorem nZ (x:Nu)(i:Nat):(aJ x i).st.s=x.st.s:=by unfold aJ;split<;>rfl
theorem xO{F:mr}{c:CoC}{P T:List Int}{L:Nat}(hm:1<=F.md/\F.md<=3)(hc:a5 P T=0)(hF:F.Ok c P T L):(EI F c P T L).Good where
 n32:=by have:=bh (aR hc).1;exact⟨this.2.2.1,this.2.2.2⟩
 okS:=fun(st:Nu) N i h hN hi=>by
  unfold lkB at hN
  have:=(hF.act _ _ h.1 QX QX i hi).1
  exact⟨hF.mono _ _ _ this.1 Ro,by have:=h.2;have:=(hF.act _ _ h.1 QX QX i hi).1.2;show(F.step c (ab P).length st i).st.s.ops<=_;omega⟩
 okA:=fun(st:Nu) N i r h hN hi=>by
  unfold lkB at hN
  have:=(hF.act _ _ h.1 QX QX i hi).2.1 r
  exact⟨hF.mono _ _ _ this Ro,by have:=h.2;show(F.ask c st i r).st.s.ops<=_;rw[hF.askS];omega⟩
 okL:=fun(st:Nu) N i h hN hi=>by
  unfold lkB at hN
  have:=(hF.act _ _ h.1 QX QX i hi).2.2
  exact⟨hF.mono _ _ _ this Ro,by have:=h.2;show(aJ st i).st.s.ops<=_;rw[nZ];omega⟩
 okm:=fun(st:Nu) N h=>⟨hF.mono _ _ _ h.1 Ro,by have:=h.2;omega⟩
 one:=fun(st:Nu) N i j h hi hj h1 h2 h3=>by
  have e1:(sv st.U i).pc=10:=h1
  have l1:=(hF.link _ _ h.1 i hi).2 QX
  have h3':(true&&decide ((sv st.U i).a=1))=false:=h3
  simp only[Bool.true_and,decide_eq_false_iff_not]at h3'
  exact(hF.safe _ _ h.1 i j hi hj h1 h2 QX).1.symm
 pcs:=fun(st:Nu) N i h hi=>(hF.link _ _ h.1 i hi).1
 cnt:=fun(st:Nu) N i h hi=>by
  show(sv st.U i).pc=10↔0<(if (sv st.U i).pc=10 then(1:Int)else 0)
  split<;>simp[*]
 opsS:=fun(st:Nu) N i h hN hi=>by
  unfold lkB at hN
  exact(hF.act _ _ h.1 QX QX i hi).1.2
 arA:=fun(st:Nu) i r=>hF.askS st i r
 arL:=fun(st:Nu) i=>nZ st i
 ais:=fun(b:RwB) w a g lb (st:Nu) h=>h.1.gd.ar
 lk:=fun(b:RwB) w a g lb (st:Nu) h=>h.2.2.1.c1
 kd:=fun(b:RwB) w a g lb (st:Nu) h=>⟨_,h.2.2.1.blk.cell 0,(decide_eq_true QX).symm⟩
 fpa:=fun(b:RwB) w a g lb (st:Nu) h=>⟨h.2.2.1.fl,h.2.2.1.hw⟩
 far:=fun(b:RwB) w a g lb (st:Nu) w' S h t hS=>by
  obtain⟨k,⟨rfl,rfl⟩,hd,hq,hl⟩:=h
  have h9:∀x∈S,b.hi<=x:=hS
  have hf:=hd.fl
  refine⟨k.farR t (λi m=>⟨λz=>?_,λz=>?_,λz=>?_,λz=>?_⟩) (λi m z=>?_),⟨rfl,rfl⟩,hd.far t h9,⟨t.blk hq.1 (λm=>by have:=h9 _ m;have:=hq.2.1;omega),hq.2⟩,hl⟩
  ·have:=h9 i m;have:=hl i (.inl z);omega
  ·have:=h9 i m;have:=hl i (.inr (.inl z));omega
  ·have:=h9 i m;have:=hl i (.inr (.inr (.inl z)));omega
  ·have:=h9 i m;have:=hl i (.inr (.inr (.inr z)));omega
  ·have:=h9 i m;have:=hf i z;omega
 cS:=fun(b:RwB) w a g lb (st:Nu) N i h hk hN hi=>by
  unfold lkB at hN
  obtain⟨k,⟨rfl,rfl⟩,hd,hq,hl⟩:=h
  refine(nA .rw hd.c1 hd.c2 hi (R:=λr w'=>r=dA (sv st.U i) (sv (F.step c (ab P).length st i).U i)/\av F.ty b.B b.BC w' b.a b.g b.X c P T (F.step c (ab P).length st i).st (F.step c (ab P).length st i).d (F.step c (ab P).length st i).U/\aa (SmS b.a b.g b.X) w w') λW bw=>?_).mono ?_
  ·refine(hF.cS _ _ _ _ _ _ _ _ _ i (k.below bw) hk.1 QX (by have:=hk.2;omega) (hq.1.below bw hq.1.lt) hi).mono ?_
   exact JE
  ·exact Ko
 cA:=fun(b:RwB) w a g lb (st:Nu) N i r h hk hN hi=>by
  obtain⟨k,⟨rfl,rfl⟩,hd,hq,hl⟩:=h
  refine(Cj hd.c1 hd.c2 hi r (R:=λq w'=>q=decide ((sv st.U i).pc=0/\(r=true->(true:Bool)=true))/\av F.ty b.B b.BC w' b.a b.g b.X c P T (F.ask c st i r).st (F.ask c st i r).d (F.ask c st i r).U/\aa (SmS b.a b.g b.X) w w') (λW bw=>?_)).mono ?_
  ·refine(hF.cA _ _ _ _ _ _ _ _ i r (k.below bw) (hq.1.below bw hq.1.lt) hi).mono ?_
   exact JG
  ·exact Ko
 cL:=fun(b:RwB) w a g lb (st:Nu) N i h hk hN hi=>by
  obtain⟨k,⟨rfl,rfl⟩,hd,hq,hl⟩:=h
  refine(kv .rw hd.c1 hd.c2 hi (R:=λq w'=>q=decide ((sv st.U i).pc=10)/\av F.ty b.B b.BC w' b.a b.g b.X c P T (aJ st i).st (aJ st i).d (aJ st i).U/\aa (SmS b.a b.g b.X) w w') λW bw=>?_).mono ?_
  ·refine(hF.cL _ _ _ _ _ _ _ _ i (k.below bw) (hq.1.below bw hq.1.lt) hi (λe=>(hF.link _ _ hk.1 i hi).2 QX)).mono ?_
   exact JE
  ·exact Ko
 cP:=fun(b:RwB) w a g lb (st:Nu) i h hi=>nz .rw h.2.2.1.c1 h.2.2.1.c2 hi _ λW bw=>hF.cP _ _ _ _ _ _ _ _ i (h.1.below bw) (h.2.2.2.1.1.below bw h.2.2.2.1.1.lt) hi
 cC:=fun(b:RwB) w a g lb (st:Nu) i h hi=>ny .rw h.2.2.1.c1 h.2.2.1.c2 hi _ λW bw=>hF.cP _ _ _ _ _ _ _ _ i (h.1.below bw) (h.2.2.2.1.1.below bw h.2.2.2.1.1.lt) hi
end
section
open Go Go.RowKit
section
variable{w:World}{q l:Nat}{Q:Ending->World->Prop}
theorem mF (hb:Blk w q 273 #[.int .i64 1,.iface 274 ↑l]):Calls Tryz.prog 357 #[↑q] w λe w'=>e= .returned (.bool true)/\w=w':=by have c0:w.cell? q=some (.int .i64 1):=hb.cell 0;exact Kp
theorem Cu (hb0:Blk w q 273 #[.int .i64 1,.iface 274 ↑l])(i:Int)(p:Sp)(H:∀W,Below w.heap.size w W->Calls Tryz.prog 364 #[↑l,.int .i64 i] W λe w'=>e= .returned (aE p)/\Below W.heap.size W w'):Calls Tryz.prog 355 #[↑q,.int .i64 i] w λe w'=>e= .returned (aE p)/\Below w.heap.size w w':=by have hx:=hb0.lt;have b1:=(Below.refl w.heap.size w).alloc (Nat.le_refl _) (.cells #[.int .i64 0,.int .i64 0,.int .i64 0,.int .i64 0] 113);have h1:=hb0.below b1 hx;have c1:(w.alloc (.cells #[.int .i64 0,.int .i64 0,.int .i64 0,.int .i64 0] 113)).cell? ⟨q,1,none⟩=some (.iface 274 ↑l):=h1.cell 1;have HM:=qh (mF h1);exact Kr
theorem Cy (hb:Blk w q 273 #[.int .i64 1,.iface 274 ↑l])(i:Int){R:Bool->World->Prop}(hD:Calls Tryz.prog 365 #[↑l,.int .i64 i] w (BR R)):Calls Tryz.prog 356 #[↑q,.int .i64 i] w (BR R):=by have HM:=qh (mF hb);have c1:w.cell? ⟨q,1,none⟩=some (.iface 274 ↑l):=hb.cell 1;exact Ks
theorem zF (hb:Blk w q 273 #[.int .i64 1,.iface 274 ↑l])(i:Int){R:Bool->World->Prop}(hD:Calls Tryz.prog 362 #[↑l,.int .i64 i] w (BR R)):Calls Tryz.prog 353 #[↑q,.int .i64 i] w (BR R):=by have HM:=qh (mF hb);have c1:w.cell? ⟨q,1,none⟩=some (.iface 274 ↑l):=hb.cell 1;exact Kt
theorem Er (hb:Blk w q 273 #[.int .i64 1,.iface 274 ↑l])(i:Int)(r:Bool){R:Bool->World->Prop}(hD:Calls Tryz.prog 361 #[↑l,.int .i64 i,.bool r] w (BR R)):Calls Tryz.prog 352 #[↑q,.int .i64 i,.bool r] w (BR R):=by have HM:=qh (mF hb);have c1:w.cell? ⟨q,1,none⟩=some (.iface 274 ↑l):=hb.cell 1;exact Ku
theorem mG (hb:Blk w q 273 #[.int .i64 2,.iface 277 ↑l]):Calls Tryz.prog 357 #[↑q] w λe w'=>e= .returned (.bool true)/\w=w':=by have c0:w.cell? q=some (.int .i64 2):=hb.cell 0;exact Kp
theorem Cv (hb0:Blk w q 273 #[.int .i64 2,.iface 277 ↑l])(i:Int)(p:Sp)(H:∀W,Below w.heap.size w W->Calls Tryz.prog 388 #[↑l,.int .i64 i] W λe w'=>e= .returned (aE p)/\Below W.heap.size W w'):Calls Tryz.prog 355 #[↑q,.int .i64 i] w λe w'=>e= .returned (aE p)/\Below w.heap.size w w':=by have hx:=hb0.lt;have b1:=(Below.refl w.heap.size w).alloc (Nat.le_refl _) (.cells #[.int .i64 0,.int .i64 0,.int .i64 0,.int .i64 0] 113);have h1:=hb0.below b1 hx;have c1:(w.alloc (.cells #[.int .i64 0,.int .i64 0,.int .i64 0,.int .i64 0] 113)).cell? ⟨q,1,none⟩=some (.iface 277 ↑l):=h1.cell 1;have HM:=qh (mG h1);exact Kr
theorem Cz (hb:Blk w q 273 #[.int .i64 2,.iface 277 ↑l])(i:Int){R:Bool->World->Prop}(hD:Calls Tryz.prog 389 #[↑l,.int .i64 i] w (BR R)):Calls Tryz.prog 356 #[↑q,.int .i64 i] w (BR R):=by have HM:=qh (mG hb);have c1:w.cell? ⟨q,1,none⟩=some (.iface 277 ↑l):=hb.cell 1;exact Ks
theorem zG (hb:Blk w q 273 #[.int .i64 2,.iface 277 ↑l])(i:Int){R:Bool->World->Prop}(hD:Calls Tryz.prog 386 #[↑l,.int .i64 i] w (BR R)):Calls Tryz.prog 353 #[↑q,.int .i64 i] w (BR R):=by have HM:=qh (mG hb);have c1:w.cell? ⟨q,1,none⟩=some (.iface 277 ↑l):=hb.cell 1;exact Kt
theorem Es (hb:Blk w q 273 #[.int .i64 2,.iface 277 ↑l])(i:Int)(r:Bool){R:Bool->World->Prop}(hD:Calls Tryz.prog 385 #[↑l,.int .i64 i,.bool r] w (BR R)):Calls Tryz.prog 352 #[↑q,.int .i64 i,.bool r] w (BR R):=by have HM:=qh (mG hb);have c1:w.cell? ⟨q,1,none⟩=some (.iface 277 ↑l):=hb.cell 1;exact Ku
theorem mH (hb:Blk w q 273 #[.int .i64 3,.iface 280 ↑l]):Calls Tryz.prog 357 #[↑q] w λe w'=>e= .returned (.bool true)/\w=w':=by have c0:w.cell? q=some (.int .i64 3):=hb.cell 0;exact Kp
theorem Cw (hb0:Blk w q 273 #[.int .i64 3,.iface 280 ↑l])(i:Int)(p:Sp)(H:∀W,Below w.heap.size w W->Calls Tryz.prog 399 #[↑l,.int .i64 i] W λe w'=>e= .returned (aE p)/\Below W.heap.size W w'):Calls Tryz.prog 355 #[↑q,.int .i64 i] w λe w'=>e= .returned (aE p)/\Below w.heap.size w w':=by have hx:=hb0.lt;have b1:=(Below.refl w.heap.size w).alloc (Nat.le_refl _) (.cells #[.int .i64 0,.int .i64 0,.int .i64 0,.int .i64 0] 113);have h1:=hb0.below b1 hx;have c1:(w.alloc (.cells #[.int .i64 0,.int .i64 0,.int .i64 0,.int .i64 0] 113)).cell? ⟨q,1,none⟩=some (.iface 280 ↑l):=h1.cell 1;have HM:=qh (mH h1);exact Kr
theorem CA (hb:Blk w q 273 #[.int .i64 3,.iface 280 ↑l])(i:Int){R:Bool->World->Prop}(hD:Calls Tryz.prog 400 #[↑l,.int .i64 i] w (BR R)):Calls Tryz.prog 356 #[↑q,.int .i64 i] w (BR R):=by have HM:=qh (mH hb);have c1:w.cell? ⟨q,1,none⟩=some (.iface 280 ↑l):=hb.cell 1;exact Ks
theorem zH (hb:Blk w q 273 #[.int .i64 3,.iface 280 ↑l])(i:Int){R:Bool->World->Prop}(hD:Calls Tryz.prog 397 #[↑l,.int .i64 i] w (BR R)):Calls Tryz.prog 353 #[↑q,.int .i64 i] w (BR R):=by have HM:=qh (mH hb);have c1:w.cell? ⟨q,1,none⟩=some (.iface 280 ↑l):=hb.cell 1;exact Kt
theorem Et (hb:Blk w q 273 #[.int .i64 3,.iface 280 ↑l])(i:Int)(r:Bool){R:Bool->World->Prop}(hD:Calls Tryz.prog 396 #[↑l,.int .i64 i,.bool r] w (BR R)):Calls Tryz.prog 352 #[↑q,.int .i64 i,.bool r] w (BR R):=by have HM:=qh (mH hb);have c1:w.cell? ⟨q,1,none⟩=some (.iface 280 ↑l):=hb.cell 1;exact Ku
end
end
section
open Go.RowKit
structure SmB (B BC:Nat->Prop)(w0 w:World)(a g:Nat)(X:SmX)(c:CoC)(P T:List Int)(st:Co)(d:Dr)(U:List Sp)(bx:Nat):Prop where
 is:av 330 B BC w a g X c P T st d U
 bk:Blk w bx 274 #[↑X.l]
 nS:bx∉SmS a g X
 tn:aa (SmS a g X) w0 w
section
variable{B BC:Nat->Prop}{w w' w0:World}{a g bx:Nat}{X:SmX}{c:CoC}{P T:List Int}{st st':Co}{d d':Dr}{U:List Sp}{s':Ar}{BB:Int}
theorem av.lts (h:av 330 B BC w a g X c P T st d U):∀r∈SmS a g X,r<w.heap.size:=by exact Kv
theorem SmB.to (h:SmB B BC w0 w a g X c P T st d U bx)(k:av 330 B BC w' a g X c P T st' d' U)(t:aa (SmS a g X) w w'):SmB B BC w0 w' a g X c P T st' d' U bx:=⟨k,t.blk h.bk h.nS,h.nS,h.tn.trans t⟩
theorem SmB.drew (h:SmB B BC w0 w a g X c P T st d U bx):SmB B BC w0 w.drew a g X c P T st d U bx:=h.to (h.is.below (Below.refl _ _).drew) (aa.refl _ _).drew
theorem SmB.below (h:SmB B BC w0 w a g X c P T st d U bx)(b:Below w.heap.size w w'):SmB B BC w0 w' a g X c P T st d U bx:=h.to (h.is.below b) (aa.of_below b)
theorem SmB.new (h:av 330 B BC w a g X c P T st d U):SmB B BC w (w.alloc (.cells #[↑X.l] 274)) a g X c P T st d U w.heap.size:=
 ⟨h.below ((Below.refl _ _).alloc (Nat.le_refl _) _),Blk.new w _ _,λk=>by have:=h.lts _ k;omega,(aa.refl _ _).alloc _⟩
theorem SmB.cs (h:SmB B BC w0 w a g X c P T st d U bx):w.cell? bx=some ↑X.l/\w.cell? X.l=some ↑a/\w.cell? ⟨X.l,1,none⟩=some ↑X.b/\w.cell? ⟨X.l,3,none⟩=some ↑X.dd/\w.cell? ⟨X.l,4,none⟩=some (.int .i64 (2*((ab P).length:Int)+1)):=⟨h.bk.cell 0,h.is.cs.1,h.is.cs.2.1,h.is.cs.2.2.2.1,h.is.cs.2.2.2.2.1⟩
theorem SmB.ag (h:SmB B BC w0 w a g X c P T st d U bx)(t:aa [a,g] w w')(ha:aA w' a g s'):SmB B BC w0 w' a g X c P T (onA st s') d U bx:=h.to (h.is.arT t ha) (fd t)
theorem SmB.gd (h:SmB B BC w0 w a g X c P T st d U bx)(t:aa [a,g,X.dd] w w')(k:GD w' a g X.gg X.dd (ab P).length s' d'):SmB B BC w0 w' a g X c P T (onA st s') d' U bx:=h.to (h.is.gdT t k) (ja t)
theorem SmB.co (h:SmB B BC w0 w a g X c P T st d U bx)(t:aa (CoS a g X.x) w w')(k:aB BC w' a g X.x c P T st'):SmB B BC w0 w' a g X c P T st' d U bx:=h.to (h.is.coT t k) (gQ t)
theorem av.node (h:av 330 B BC w a g X c P T st d U){n:Nat}(hn:n<T.length):(c.node n)<(ab P).length/\(ao P T T.length)[n]? =some ((c.node n:Nat):Int):=by exact Kw
theorem DM (h:SmB B BC w0 w a g X c P T st d U bx)(v:Int)(ho:st.s.ops+1<=1000000000000):Calls Tryz.prog 370 #[.int .i64 v,↑bx] w λe w'=>e= .returned (.tuple #[])/\SmB B BC w0 w' a g X c P T (onA st (ac st.s (nuFl (ab P).length) v)) d U bx:=by
 have HO:=qh (λW (k:SmB B BC w0 W a g X c P T st d U bx)=>am k.is.gd.ar (2*((ab P).length:Int)+1) v ho);have N1:=qh h.drew;clear h;go_enter Tryz.func370,Tryz.ntmps370;go_wp2_with fail
 go_region_held3 (λW=>W.cell? bx=some ↑X.l/\W.cell? X.l=some ↑a/\W.cell? ⟨X.l,4,none⟩=some (.int .i64 (2*((ab P).length:Int)+1)))
  (first|exact⟨N1.o.cs.1,N1.o.cs.2.1,N1.o.cs.2.2.2.2⟩|exact⟨N2.o.cs.1,N2.o.cs.2.1,N2.o.cs.2.2.2.2⟩)
  (first
   |(go_at_call 177;go_loud (refine(HO.o _ N1.o).mono ?_);rintro en w3 ⟨rfl,a3,t3⟩;have N2:=qh (N1.o.ag t3 a3);clear a3 t3))
 go_wp2;go_end0;exact⟨rfl,N2.o⟩
def te (B BC:Nat->Prop)(w:World)(a g:Nat)(X:SmX)(c:CoC)(P T:List Int)(r:Co×Dr×Bool)(U:List Sp)(e:Ending)(w':World):Prop:=
 e= .returned (.bool r.2.2)/\av 330 B BC w' a g X c P T r.1 r.2.1 U/\aa (SmS a g X) w w'
theorem FQ{r:Bool}{n:Nat}{pc:Int}{st0:Co}{d0:Dr}(k:SmB B BC w w' a g X c P T st' d' U bx)(hx:ij c (ab P).length ⟨st0,d0,U⟩ n pc=(st',d',r)):te B BC w a g X c P T (ij c (ab P).length ⟨st0,d0,U⟩ n pc) U (.returned (.bool r)) w':=by rw[hx];exact⟨rfl,k.is,k.tn⟩
theorem vy {Q:Prop} (h:Q:=by
    go_wp2
    go_ret
    exact FQ N3.o (by first|rfl|(rw[HQ.o];rfl))):Q:=h
theorem FO {Q:Prop} (h:Q:=by
    have l5:=N2.o.is.cs.2.2.2.2.2.1
    have l0:=N2.o.bk.cell 0
    go_wp2_with fail
    refine(HL.o _ N2.o).mono ?_
    rintro en w3 ⟨rfl,k3,t3⟩
    have N3:=qh (N2.o.co t3 k3)
    clear k3 t3
    exact vy):Q:=h
theorem Cm {Q:Prop} (h:Q:=by
    go_wp2_with fail
    refine(HG.o _ N0.o).mono ?_
    rintro en w2 ⟨rfl,a2,t2'⟩
    have N3:=qh (N0.o.ag t2' a2)
    have N2:=N3
    clear a2 t2'
    first
      | exact FO
      | exact vy):Q:=h
theorem FP {Q:Prop} (h:Q:=by
    go_wp2_with fail
    refine(HL.o _ N0.o).mono ?_
    rintro en w4 ⟨rfl,k4,t4⟩
    first
      | have N3:=qh (N0.o.co t4 k4)
      | have N3:=qh (N0.o.gd t4 k4)
    clear k4 t4
    exact vy):Q:=h
theorem El (h:av 330 B BC w a g X c P T st d U)(n:Nat)(hn:n<T.length)(pc:Int)(hpc:(sv U n).pc=pc)(ho:st.s.ops+1<=1000000000000)(hN:1<=(ab P).length)(hb:pc=9->d.busy=true->d.at_<(ab P).length)(C:cX BB X.x c st)(hcs:pc=1\/pc=11\/pc=3\/pc=5\/pc=12\/pc=8\/pc=9\/pc=4\/pc=6\/pc=7\/pc=13):Calls Tryz.prog 368 #[↑X.l,.int .i64 n] w (te B BC w a g X c P T (ij c (ab P).length ⟨st,d,U⟩ n pc) U):=by
 have hp:=h.thr hn;obtain⟨hnd,hnn⟩:=h.node hn;have hx:=h.nT;have N0:=qh (SmB.new h);have HND:=qh (kh (w.alloc (.cells #[↑X.l] 274)) X.b P T n hn N0.o.is.tb.f _ hnn);have t2:¬(n:Int)<0:=by omega
 have hl:=h.lk.lt;have hq:=h.sp.lt;have hnx:n<X.x.n:=by rw[hx.1];exact hn
 obtain⟨p,hpp⟩:∃p,p=sv U n:=⟨_,rfl⟩;rw[<-hpp]at hp hpc;obtain⟨pc,u,b,z⟩:=p;simp only at hpc;subst hpc;have a0:=N0.o.is.sp.cell hp 0 _ rfl;simp only[Nat.add_zero]at a0;have d2:=N0.o.is.cs.2.2.1;have d3:=N0.o.is.cs.2.2.2.1;have d5:=N0.o.is.cs.2.2.2.2.2.1;have d6:=N0.o.is.cs.2.2.2.2.2.2;have HA:=qh (show 2*((c.node n:Nat):Int)+1=gaA (c.node n)/\2*((c.node n:Nat):Int)+1+1=gaW (c.node n)by unfold gaA gaW;omega);have GE:=λW (k:SmB B BC w W a g X c P T (st) d U w.heap.size)=>qm k.is.gd.ga k.is.gd.ar (c.node n) hnd k.is.gd.n32 ho;have GX:=λW (k:SmB B BC w W a g X c P T (st) d U w.heap.size)=>qo k.is.gd.ga k.is.gd.ar (c.node n) hnd k.is.gd.n32 ho;simp only[HA.o.1,HA.o.2]at GE GX;have HH:=qh (And.intro GE GX);clear h hp hpp hnn hnd GE GX HA;go_enter Tryz.func368,Tryz.ntmps368;have e1:=N0.o.cs;go_wp2_with fail;refine HND.o.mono ?_;rintro en w1 ⟨rfl,rfl⟩;clear HND;rcases hcs with rfl|rfl|rfl|rfl|rfl|rfl|rfl|rfl|rfl|rfl|rfl
 ·have HG:=qh HH.o.1;exact Cm
 ·have HG:=qh HH.o.2;exact Cm
 ·have HG:=qh HH.o.2;have HL:=qh (λW (k:SmB B BC w W a g X c P T (onA st (addA st.s (gaW (c.node n)) 1)) d U w.heap.size)=>rt k.is.co n hnx);exact Cm
 ·have HG:=qh HH.o.1;have HL:=qh (λW (k:SmB B BC w W a g X c P T (onA st (addA st.s (gaA (c.node n)) 1)) d U w.heap.size)=>kJ k.is.co n hnx);exact Cm
 ·have HG:=qh (λW (k:SmB B BC w W a g X c P T (st) d U w.heap.size)=>DM k 0 ho);have HL:=qh (λW (k:SmB B BC w W a g X c P T (onA st (ac st.s (nuFl (ab P).length) 0)) d U w.heap.size)=>kJ k.is.co n hnx);go_wp2_with fail;refine(HG.o _ N0.o).mono ?_;rintro en w2 ⟨rfl,n2⟩;have N2:=qh n2;clear n2;exact FO
 ·have HG:=qh (λW (k:SmB B BC w W a g X c P T (st) d U w.heap.size)=>DM k 1 ho);have HL:=qh (λW (k:SmB B BC w W a g X c P T (onA st (ac st.s (nuFl (ab P).length) 1)) d U w.heap.size)=>mD k.is.gd hN false);have HNo:=qh (λW (k:SmB B BC w W a g X c P T (onA st (ac st.s (nuFl (ab P).length) 1)) d U w.heap.size)=>kS W X.b P T k.is.tb.f);go_wp2_with fail;refine(HG.o _ N0.o).mono ?_;rintro en w2 ⟨rfl,n2⟩;have N2:=qh n2;have N2d:=qh N2.o.drew;clear n2;go_wp2_with fail
  go_region_held3 (λW=>W.cell? w.heap.size=some ↑X.l/\W.cell? ⟨X.l,1,none⟩=some ↑X.b/\W.cell? ⟨X.l,3,none⟩=some ↑X.dd)
   (first|exact⟨N2d.o.cs.1,N2d.o.cs.2.2.1,N2d.o.cs.2.2.2.1⟩|exact⟨N3.o.cs.1,N3.o.cs.2.2.1,N3.o.cs.2.2.2.1⟩)
   (first
    |(go_at_call 137;go_loud (refine(HNo.o _ N2d.o).mono ?_);rintro en w3 ⟨rfl,rfl⟩)
    |(go_at_call 373;go_loud (refine(HL.o _ N2d.o).mono ?_);rintro en w4 ⟨rfl,k4,t4⟩;have N3:=qh (N2d.o.gd t4 k4);clear k4 t4))
  exact vy
 ·have HL0:=λW (k:SmB B BC w W a g X c P T (st) d U w.heap.size)=>mE k.is.gd (hb rfl) ho;obtain⟨r,hr⟩:∃r,r=ah st.s d:=⟨_,rfl⟩;rw[<-hr]at HL0;have HL:=qh HL0;have HQ:=qh hr;clear hr HL0;exact FP
 all_goals have HL0:=λW (k:SmB B BC w W a g X c P T (st) d U w.heap.size)=>lR k.is.co C n hnx;obtain⟨q,hq0⟩:∃q,q=bf (sv st.T n) (sv (ak c st n).T n):=⟨_,rfl⟩;rw[<-hq0]at HL0;have HL:=qh HL0;have HQ:=qh hq0;clear hq0 HL0;exact FP
end
end
section
open Go.RowKit
theorem EY (w:World)(pc:Int)(h:pc=1\/pc=3\/pc=4\/pc=5\/pc=6\/pc=7\/pc=8\/pc=9\/pc=11\/pc=12\/pc=13):Calls Tryz.prog 369 #[.int .i64 pc] w λe w'=>e= .returned (.int .i64 (ux pc))/\w=w':=by
 rcases h with rfl|rfl|rfl|rfl|rfl|rfl|rfl|rfl|rfl|rfl|rfl
 all_goals go_enter Tryz.func369,Tryz.ntmps369;go_wp2;go_ret;exact⟨rfl,rfl⟩
section
variable{B BC:Nat->Prop}{w w' w0:World}{a g:Nat}{X:SmX}{c:CoC}{P T:List Int}{st st':Co}{d d':Dr}{U:List Sp}{s':Ar}{BB:Int}
theorem ww (h:av 330 B BC w a g X c P T st d U)(n:Nat)(hn:n<T.length)(hc:(sv U n).pc=0\/(sv U n).pc=10):Calls Tryz.prog 365 #[↑X.l,.int .i64 n] w (Iq 330 B BC w a g X c P T U n (cB c (ab P).length ⟨st,d,U⟩ n)):=by
 have hfp:=aK;have HS0:=oA h n;have hp:=h.thr hn;have hg:getS U (n:Int)=sv U n:=by exact Kd
 rw[hg]at HS0;have H:=qh h;have t2:¬(n:Int)<0:=by omega
 have hn32:=h.nT.2.2.1;obtain⟨x',hx'⟩:∃x,x=cB c (ab P).length ⟨st,d,U⟩ n:=⟨_,rfl⟩;rw[<-hx'];unfold cB at hx';obtain⟨p,hpp⟩:∃p,p=sv U n:=⟨_,rfl⟩;simp only at hx';rw[if_pos hc]at hx';rw[<-hpp]at hc HS0 hp;have HS:=qh HS0;have HX:=qh hx';clear h hp hpp hx' hg HS0;obtain⟨pc,u,b,z⟩:=p;simp only at hc;unfold aE at HS;rcases hc with rfl|rfl
 all_goals go_enter Tryz.func365,Tryz.ntmps365;go_wp2_with fail;refine HS.o.mono ?_;rintro en w1 ⟨rfl,b1⟩;have HB:=qh b1;clear b1;go_wp2;go_ret;rw[HX.o];first|exact Iq.stay (H.o.below HB.o) (aa.of_below HB.o) rfl|exact Iq.put HP.o (H.o.below HB.o) (aa.of_below HB.o) rfl Rb
theorem Do (h:av 330 B BC w a g X c P T st d U) (n:Nat) (hn:n<T.length) (hc:(sv U n).pc=2) (ho:st.s.ops+1<=1000000000000):Calls Tryz.prog 365 #[↑X.l,.int .i64 n] w (Iq 330 B BC w a g X c P T U n (cB c (ab P).length ⟨st,d,U⟩ n)):=by
  have hfp:=aK;have HS0:=oA h n;have hp:=h.thr hn;have hg:getS U (n:Int)=sv U n:=by exact Kd
  rw[hg]at HS0;have H:=qh h;have t2:¬(n:Int)<0:=by omega
  have hn32:=h.nT.2.2.1;obtain⟨x',hx'⟩:∃x,x=cB c (ab P).length ⟨st,d,U⟩ n:=⟨_,rfl⟩;rw[<-hx'];unfold cB at hx';obtain⟨p,hpp⟩:∃p,p=sv U n:=⟨_,rfl⟩;simp only at hx';rw[if_neg QX,if_pos hc]at hx';rw[<-hpp]at hc HS0 hp hx';have HS:=qh HS0;have HP:=qh hp;obtain⟨pc,u,b,z⟩:=p;simp only at hc hx';subst hc;obtain⟨q,hq⟩:∃q,q=ldW st.s.W (nuFl (ab P).length):=⟨_,rfl⟩;obtain⟨ar',har⟩:∃q,q=ae st.s (nuFl (ab P).length):=⟨_,rfl⟩;have HO0:=(λW (k:av 330 B BC W a g X c P T st d U)=>aC k.gd.ar (nuFl (ab P).length) ho);rw[<-hq,<-har]at HO0;rw[<-hq,<-har]at hx';have HX:=qh hx';have HC:=qh (λW st (k:av 330 B BC W a g X c P T st d U)=>And.intro k.cs.1 k.cs.2.2.2.2.1);have HO:=qh HO0;clear h hp hpp hx' hg HS0 hq har HO0;unfold aE at HS;cases hz:(q==0)
  all_goals
    go_enter Tryz.func365,Tryz.ntmps365;go_wp2_with fail;refine HS.o.mono ?_;rintro en w1 ⟨rfl,b1⟩;have K0:=qh (H.o.below b1);have K1:=qh (H.o.below b1.drew);have T1:=qh (aa.of_below (S:=SmS a g X) b1.drew);have d6:=K0.o.cs.2.2.2.2.2.2;clear b1;go_wp2_with fail;first
    | (go_region_held3 (λW=>W.cell? X.l=some ↑a/\W.cell? ⟨X.l,4,none⟩=some (.int .i64 (2*((ab P).length:Int)+1)))
        (first|exact HC.o _ _ K1.o|exact HC.o _ _ K2.o)
        (first
          | (go_at_call 173;go_loud (refine(HO.o _ K1.o).mono ?_);rintro en w3 ⟨rfl,a3,t3⟩;have K2:=qh (K1.o.arT t3 a3);have T2:=qh (T1.o.trans (fd t3));clear a3 t3)))
    | fail "held"
  all_goals
    have e0:=K2.o.sp.cell HP.o 0 _ rfl;have z0:=K2.o.sp.free (n*4);simp only[Nat.add_zero]at e0
    first
      | (have K3:=qh (K2.o.put0 HP.o (p':=(⟨10,u,b,z⟩:Sp)) (u:= .int .i64 10) rfl)
         go_wp2
         go_ret
         rw[HX.o,if_pos Rt]
         exact Iq.put HP.o K3.o (T2.o.trans (dU _ _)) rfl (by first|rfl|decide))
      | (have K3:=qh (K2.o.put0 HP.o (p':=(⟨3,u,b,z⟩:Sp)) (u:= .int .i64 3) rfl)
         go_wp2
         go_ret
         rw[HX.o,if_neg Rt]
         exact Iq.put HP.o K3.o (T2.o.trans (dU _ _)) rfl (by first|rfl|decide))
theorem Dp (h:av 330 B BC w a g X c P T st d U) (n:Nat) (hn:n<T.length) (pc u b z:Int) (hU:sv U n=⟨pc,u,b,z⟩) (hc:pc=1\/pc=3\/pc=4\/pc=5\/pc=6\/pc=7\/pc=8\/pc=9\/pc=11\/pc=12\/pc=13)
    (hD:∀W,av 330 B BC W a g X c P T st d U->Calls Tryz.prog 368 #[↑X.l,.int .i64 n] W (te B BC W a g X c P T (ij c (ab P).length ⟨st,d,U⟩ n pc) U)):Calls Tryz.prog 365 #[↑X.l,.int .i64 n] w (Iq 330 B BC w a g X c P T U n (cB c (ab P).length ⟨st,d,U⟩ n)):=by
  have hfp:=aK;have HS0:=oA h n;have hp:=h.thr hn;have hg:getS U (n:Int)=sv U n:=by exact Kd
  rw[hg]at HS0;have H:=qh h;have t2:¬(n:Int)<0:=by omega
  have hn32:=h.nT.2.2.1;obtain⟨x',hx'⟩:∃x,x=cB c (ab P).length ⟨st,d,U⟩ n:=⟨_,rfl⟩;rw[<-hx'];unfold cB at hx';obtain⟨p,hpp⟩:∃p,p=sv U n:=⟨_,rfl⟩;simp only at hx';have hv:p=⟨pc,u,b,z⟩:=by rw[hpp,hU]
  subst hv;rw[<-hpp,if_neg (show ¬(pc=0\/pc=10)by omega),if_neg (show ¬pc=2 by omega)]at hx';rw[<-hpp]at HS0 hp;have u0:(pc==0)=false:=by simp;omega
  have u1:(pc==10)=false:=by simp;omega
  have u2:(pc==2)=false:=by simp;omega
  have HNX:=qh (λW=>EY W pc hc);obtain⟨r,hr⟩:∃r,r=ij c (ab P).length ⟨st,d,U⟩ n pc:=⟨_,rfl⟩;rw[<-hr]at hD hx';obtain⟨s1,d1,q⟩:=r;obtain⟨v,hvv⟩:∃v,v=ux pc:=⟨_,rfl⟩;rw[<-hvv]at HNX;unfold nuTo at hx';simp only at hx';rw[<-hvv]at hx';have HX:=qh hx';have HS:=qh HS0;have HP:=qh hp;have HD:=qh hD;clear h hp hpp hx' hg HS0 hD hr hvv hU hc;unfold aE at HS;cases q;· skip;go_enter Tryz.func365,Tryz.ntmps365;go_wp2_with fail;refine HS.o.mono ?_;rintro en w1 ⟨rfl,b1⟩;have K1:=qh (H.o.below b1.drew);have T1:=qh (aa.of_below (S:=SmS a g X) b1.drew);have K0:=qh (H.o.below b1);have d6:=K0.o.cs.2.2.2.2.2.2;clear b1;go_wp2_with fail;refine wp_region_held_drew (S:=(λ_=>True)) Q0 (by exact trivial) (λhHeld=>?_);refine tk 0 ?_;refine tk 1 ?_;refine tk 2 ?_;refine tk 3 ?_;refine tk 4 ?_;refine tk 5 ?_;refine tk 6 ?_;refine tk 7 ?_;refine tk 8 ?_;refine tk 9 ?_;refine tk 10 ?_;refine tk 11 ?_;refine tk 12 ?_;refine tk 13 ?_;refine tk 14 ?_;refine wpAnyH_done Q0 ?_ _;go_wp2_with fail;refine(HD.o _ K1.o).mono ?_;rintro en w3 ⟨rfl,k3,t3⟩;have K3:=qh k3;have T3:=qh (T1.o.trans t3);clear k3 t3;go_wp2;go_ret;rw[HX.o];refine Iq.put HP.o (p':=⟨pc,u,b,z⟩) ?_ T3.o rfl (gX _);have k:=K3.o;rw[<-bX HP.o]at k;exact k
  · cases v1:(v==10)<;>cases v2:(v==0);all_goals go_enter Tryz.func365,Tryz.ntmps365;go_wp2_with fail;refine HS.o.mono ?_;rintro en w1 ⟨rfl,b1⟩;have K1:=qh (H.o.below b1.drew);have T1:=qh (aa.of_below (S:=SmS a g X) b1.drew);have K0:=qh (H.o.below b1);have d6:=K0.o.cs.2.2.2.2.2.2;clear b1;go_wp2_with fail;refine wp_region_held_drew (S:=(λ_=>True)) Q0 (by exact trivial) (λhHeld=>?_);refine tk 0 ?_;refine tk 1 ?_;refine tk 2 ?_;refine tk 3 ?_;refine tk 4 ?_;refine tk 5 ?_;refine tk 6 ?_;refine tk 7 ?_;refine tk 8 ?_;refine tk 9 ?_;refine tk 10 ?_;refine tk 11 ?_;refine tk 12 ?_;refine tk 13 ?_;refine tk 14 ?_;refine wpAnyH_done Q0 ?_ _;go_wp2_with fail;refine(HD.o _ K1.o).mono ?_;rintro en w3 ⟨rfl,k3,t3⟩;have K3:=qh k3;have T3:=qh (T1.o.trans t3);have e0:=K3.o.sp.cell HP.o 0 _ rfl;have z0:=K3.o.sp.free (n*4);simp only[Nat.add_zero]at e0;have K4:=qh (K3.o.put0 HP.o (p':=(⟨v,u,b,z⟩:Sp)) (u:= .int .i64 v) rfl);clear k3 t3;go_wp2_with fail;refine(HNX.o _).mono ?_;rintro en w4 ⟨rfl,rfl⟩;go_wp2;go_ret;rw[HX.o];first|exact Iq.stay (K4.o) (T3.o.trans (dU _ _)) rfl|exact Iq.put HP.o (K4.o) (T3.o.trans (dU _ _)) rfl Rb
theorem Dk (h:av 330 B BC w a g X c P T st d U) (n:Nat) (hn:n<T.length) (hc:gL (sv U n) (sv st.T n)) (ho:st.s.ops+1<=1000000000000) (hN:1<=(ab P).length) (hb:(sv U n).pc=9->d.busy=true->d.at_<(ab P).length) (C:cX BB X.x c st):
    Calls Tryz.prog 365 #[↑X.l,.int .i64 n] w (Iq 330 B BC w a g X c P T U n (cB c (ab P).length ⟨st,d,U⟩ n)):=by
  obtain⟨p,hpp⟩:∃p,p=sv U n:=⟨_,rfl⟩
  have hcs:p.pc=0\/p.pc=10\/p.pc=2\/p.pc=1\/p.pc=3\/p.pc=4\/p.pc=5\/p.pc=6\/p.pc=7\/p.pc=8\/p.pc=9\/p.pc=11\/p.pc=12\/p.pc=13:=by
    rw[<-hpp]at hc;unfold gL at hc;rcases hc with⟨q1,_⟩|⟨_,q2,_⟩|⟨_,q2,_⟩|⟨_,q2,_⟩|⟨_,q2,_⟩|⟨_,q2,_⟩|⟨_,q2,_⟩|⟨_,q2,_⟩
    all_goals omega
  obtain⟨pc,u,b,z⟩:=p;have hpc:(sv U n).pc=pc:=by rw[<-hpp]
  simp only at hcs;rcases hcs with rfl|rfl|rfl|rfl|rfl|rfl|rfl|rfl|rfl|rfl|rfl|rfl|rfl|rfl
  · exact ww h n hn (.inl hpc)
  · exact ww h n hn (.inr hpc)
  · exact Do h n hn hpc ho
  all_goals exact Dp h n hn _ u b z hpp.symm QZ (λW k=>El k n hn _ hpc ho hN (λe=>hb (hpc.trans e)) C QZ)
end
end
end Go.Proofs.YtglokdbiggbkjaaGreat
