/- Joined texts. -/
import Derived.Test.YtglokdbiggbkjaaGreatMgLocksSafe0
import Derived.Test.YtglokdbiggbkjaaGreatMgLocksSafe2
import Derived.Test.YtglokdbiggbkjaaGreatMgLocksSafe21
import Derived.Test.YtglokdbiggbkjaaGreatMgLocksSafe23
import Derived.Test.YtglokdbiggbkjaaGreatMgLocksSafe24
import Derived.Test.YtglokdbiggbkjaaGreatMgLocksSafe25
set_option linter.unusedVariables false
set_option linter.unusedSimpArgs false
set_option maxRecDepth 100000
set_option maxHeartbeats 16000000
namespace Go.Proofs.YtglokdbiggbkjaaGreat
section
open Go
section
variable{c:CoC}{n N:Nat}{ml:Nat->Nat}{x:Nu}{B:Int}
theorem qS{p:Sp}(h:¬(p.a=1/\(p.pc=3\/p.pc=4\/p.pc=10\/p.pc=11))):fm p=false:=decide_eq_false h
theorem Da{p:Sp}(h:p.a=1/\(p.pc=3\/p.pc=4\/p.pc=10\/p.pc=11)):fm p=true:=decide_eq_true h
theorem Hi{p:Sp}(h:¬(p.a=0/\(p.pc=7\/p.pc=9\/p.pc=10\/p.pc=12))):wrC p=false:=decide_eq_false h
theorem WsI.ask (h:WsI c n N ml x){i:Nat}(hi:i<n)(r:Bool):WsI c n N ml (gj x i r):=by
 unfold gj;split
 ·rename_i h0;have hk:=h.k i hi;have ht:(sv x.st.T i).pc=0:=by unfold hY at hk;omega
  have hb:fm (sv x.U i)=false:=qS QX;have hc:wrC (sv x.U i)=false:=Hi QX;cases r;·exact h.upd (p':=⟨5,0,0,0⟩) hi h.m (λ_ _=>rfl) (.inr (.inr (.inl ⟨rfl,rfl,ht⟩))) (dD h hi Ry (λ_ _=>rfl)) (eh h hi (by rw[hc];rfl) rfl) (λ_ _=>Int.le_refl _) (λhr=>by unfold dp at hr;simp at hr) (λ_ _ _ _ _=>rfl) (λ_ e=>by simp at e) (λ_ e=>by simp at e)
  ·exact h.upd (p':=⟨1,1,0,0⟩) hi h.m (λ_ _=>rfl) (.inr (.inl ⟨rfl,.inl rfl,ht⟩)) (dD h hi Ry (λ_ _=>rfl)) (eh h hi (by rw[hc];rfl) rfl) (λ_ _=>Int.le_refl _) (λhr=>by unfold dp at hr;simp at hr) (λ_ _ _ _ _=>rfl) (λe=>by simp at e) (λe=>by simp at e)
 ·exact h
theorem WsI.leave (h:WsI c n N ml x){i:Nat}(hi:i<n):WsI c n N ml (aJ x i):=by
 unfold aJ;split
 ·rename_i h10;have hk:=h.k i hi;obtain⟨p,hp⟩:∃p,p=sv x.U i:=⟨_,rfl⟩;rw[<-hp]at hk h10 ⊢;have hcase:(p.a=1/\(sv x.st.T i).pc=0)\/(p.a=0/\(sv x.st.T i).pc=10):=by unfold hY at hk;omega
  obtain⟨pc,u,b,z⟩:=p;simp only at h10 hcase;subst h10;rcases hcase with⟨rfl,ht⟩|⟨rfl,ht⟩
  ·exact h.upd (p':=⟨11,1,b,z⟩) hi h.m (λ_ _=>rfl) (.inr (.inl ⟨rfl,.inr (.inr (.inr (.inr (.inr rfl)))),ht⟩)) (dD h hi Q7 (λ_ _=>rfl)) (eh h hi Q7 rfl) (λ_ _=>Int.le_refl _) (λhr=> .inl (by rw[<-hp];exact⟨rfl,.inl rfl⟩)) (λ_ _ _ _ _=>rfl) (λe=>by simp at e) (λe=>by simp at e)
  ·exact h.upd (p':=⟨12,0,b,z⟩) hi h.m (λ_ _=>rfl) (.inr (.inr (.inr (.inr (.inl ⟨rfl,.inr (.inr rfl),ht⟩))))) (dD h hi Q7 (λ_ _=>rfl)) (eh h hi Q7 rfl) (λ_ _=>Int.le_refl _) (λhr=>by unfold dp at hr;simp at hr) (λ_ _ _ _ _=>rfl) (λ_ e=>by simp at e) (λ_ e=>by simp at e)
 ·exact h
theorem kp {P Q:Prop} (q:Q) (h:Kq Q->P:=by
    intro q_
    have hn:=(y.nd i hi).1
    have hnn:∀j,j<n->c.node j<N:=λj hj=>(y.nd j hj).1
    have hk:=h.k i hi
    have hdr:=h.dr i hi
    have oth:(sv x.st.T i).pc=10->∀j,j<n->j≠i->¬Dy (sv x.U j):=λht j hj e hw=>e (h.one y hj hi (DW (h.k j hj) hw) ht)
    have oth9:(sv x.st.T i).pc=10->∀j,j<n->j≠i->(sv x.U j).a=0->(sv x.U j).pc=9->False:=λht j hj e h0 h9=>oth ht j hj e ⟨h0,.inl h9⟩
    have bA:=hB.w.ld QX (gaA (c.node i))
    have bW:=hB.w.ld QX (gaW (c.node i))
    have bF:=hB.w.ld QX (nuFl N)
    have wA:IntKind.i64.wrap (ldW x.st.s.W (gaA (c.node i))+1)=ldW x.st.s.W (gaA (c.node i))+1:=IntWalk.i64_in _ QX
    have wW:IntKind.i64.wrap (ldW x.st.s.W (gaW (c.node i))+1)=ldW x.st.s.W (gaW (c.node i))+1:=IntWalk.i64_in _ QX
    have lA:=qB h y l (z:=gaA (c.node i)) ⟨(eH hn).1,by have:=(eH hn).2;omega⟩ (ldW x.st.s.W (gaA (c.node i))+1) (s':=addA x.st.s (gaA (c.node i)) 1) (by rw[dR,wA])
    have lW:=qB h y l (z:=gaW (c.node i)) ⟨(bB hn).1,by have:=(bB hn).2;omega⟩ (ldW x.st.s.W (gaW (c.node i))+1) (s':=addA x.st.s (gaW (c.node i)) 1) (by rw[dR,wW])
    have lF:∀v:Int,(v=1\/v= -1)->_:=λv hv=>qB h y l (z:=nuFl N) ⟨by unfold nuFl;omega,Int.le_refl _⟩ (ldW x.st.s.W (nuFl N)+v) (s':=addA x.st.s (nuFl N) v) (by rw[dR,IntWalk.i64_in _ QX])
    have fA:ldW (addA x.st.s (gaA (c.node i)) 1).W (nuFl N)=ldW x.st.s.W (nuFl N):=by rw[lA.1,if_neg (by have:=(eH hn).2;omega)]
    have fW:ldW (addA x.st.s (gaW (c.node i)) 1).W (nuFl N)=ldW x.st.s.W (nuFl N):=by rw[lW.1,if_neg (by have:=(bB hn).2;omega)]
    have HA:∀a,a<N->ldW x.st.s.W (gaW a)<=ldW (addA x.st.s (gaA (c.node i)) 1).W (gaW a):=λa _=>by rw[lA.1,if_neg (by unfold gaA gaW;omega)];exact Int.le_refl _
    have HW:∀a,a<N->ldW x.st.s.W (gaW a)<=ldW (addA x.st.s (gaW (c.node i)) 1).W (gaW a):=λa _=>by
      exact Kf
    have HF:∀v:Int,(v=1\/v= -1)->∀a,a<N->ldW x.st.s.W (gaW a)<=ldW (addA x.st.s (nuFl N) v).W (gaW a):=λv hv a ha=>by rw[(lF v hv).1,if_neg Q9];exact Int.le_refl _
    have SF:∀v:Int,(v=1\/v= -1)->∀q,q<nuFl N->ldW (addA x.st.s (nuFl N) v).W q=ldW x.st.s.W q:=λv hv q hq=>by rw[(lF v hv).1,if_neg QX]
    have eL:(ae x.st.s (nuFl N)).W=x.st.s.W:=aM _ _
    have mS:=h.m.step y hB QX QX hi
    have lS:=h.m.stepLow y hB QX QX hi
    have lS':∀q,q<=nuFl N->ldW (ak c x.st i).s.W q=ldW x.st.s.W q:=λq hq=>lS q Sa
    have tS:∀j,j≠i->sv (ak c x.st i).T j=sv x.st.T j:=λj hj=>ni h.m.v hi hj
    have aS:=ly h.m.v hi
    unfold bv
    rw[<-hp]
    rw[<-hp]at hk hdr
    rw[if_neg QY]
    revert hn hnn hk hdr oth oth9 bA bW bF wA wW lA lW lF fA fW HA HW HF SF eL mS lS lS' tS aS
    exact q_.o):P:=h ⟨q⟩
theorem WsI.s1 (h:WsI c n N ml x)(y:cp c n N ml)(l:NuL c N x.st.s.W)(hB:CoB c B x.st)(hB0:40<=B)(hB1:B<=1000000000000){i:Nat}(hi:i<n)(b z:Int)(hp:(⟨1,1,b,z⟩:Sp)=sv x.U i)(ht:(sv x.st.T i).pc=0):WsI c n N ml (bv c N x i):=by
 refine kp ?_;intro hn hnn hk hdr oth oth9 bA bW bF wA wW lA lW lF fA fW HA HW HF SF eL mS lS lS' tS aS;show WsI c n N ml ⟨onA x.st (ae x.st.s (nuFl N)),x.d,x.U.set i ⟨if ldW x.st.s.W (nuFl N)=0 then 2 else 1,1,b,z⟩⟩;by_cases hf0:ldW x.st.s.W (nuFl N)=0;·rw[if_pos hf0];exact h.upd (p':=⟨2,1,b,z⟩) hi (kO h y eL) (λ_ _=>rfl) (.inr (.inl ⟨rfl,.inr (.inl rfl),ht⟩)) (dD h hi Q7 (λq _=>by show ldW (ae _ _).W q=_;rw[eL])) (eh h hi Q7 RQ) (λa _=>by show _<=ldW (ae _ _).W _;rw[eL];exact Int.le_refl _) (λhr=>by unfold dp at hr;simp at hr) (λ_ _ _ _ _=>rfl) (λe=>by simp at e) (λe=>by simp at e)
 ·rw[if_neg hf0];exact h.upd (p':=⟨1,1,b,z⟩) hi (kO h y eL) (λ_ _=>rfl) (.inr (.inl ⟨rfl,.inl rfl,ht⟩)) (dD h hi Rd (λq _=>by show ldW (ae _ _).W q=_;rw[eL])) (eh h hi Rd RQ) (λa _=>by show _<=ldW (ae _ _).W _;rw[eL];exact Int.le_refl _) (λhr=>by unfold dp at hr;simp at hr) (λ_ _ _ _ _=>rfl) (λe=>by simp at e) (λe=>by simp at e)
theorem WsI.s3 (h:WsI c n N ml x)(y:cp c n N ml)(l:NuL c N x.st.s.W)(hB:CoB c B x.st)(hB0:40<=B)(hB1:B<=1000000000000){i:Nat}(hi:i<n)(b z:Int)(hp:(⟨3,1,b,z⟩:Sp)=sv x.U i)(ht:(sv x.st.T i).pc=0):WsI c n N ml (bv c N x i):=by
 refine kp ?_;intro hn hnn hk hdr oth oth9 bA bW bF wA wW lA lW lF fA fW HA HW HF SF eL mS lS lS' tS aS;show WsI c n N ml ⟨onA x.st (ae x.st.s (nuFl N)),x.d,x.U.set i ⟨if ldW x.st.s.W (nuFl N)=0 then 10 else 4,1,b,z⟩⟩;by_cases hf0:ldW x.st.s.W (nuFl N)=0;·rw[if_pos hf0];exact h.upd (p':=⟨10,1,b,z⟩) hi (kO h y eL) (λ_ _=>rfl) (.inr (.inl ⟨rfl,.inr (.inr (.inr (.inr (.inl rfl)))),ht⟩)) (dD h hi Q7 (λq _=>by show ldW (ae _ _).W q=_;rw[eL])) (eh h hi Q7 RQ) (λa _=>by show _<=ldW (ae _ _).W _;rw[eL];exact Int.le_refl _) (λ_=> .inr (λj hj _ hw=>h.none hf0 hj ⟨hw.1,.inr hw.2⟩)) (λ_ _ _ _ _=>rfl) (λe=>by simp at e) (λe=>by simp at e)
 ·rw[if_neg hf0];exact h.upd (p':=⟨4,1,b,z⟩) hi (kO h y eL) (λ_ _=>rfl) (.inr (.inl ⟨rfl,.inr (.inr (.inr (.inl rfl))),ht⟩)) (dD h hi Q7 (λq _=>by show ldW (ae _ _).W q=_;rw[eL])) (eh h hi Q7 RQ) (λa _=>by show _<=ldW (ae _ _).W _;rw[eL];exact Int.le_refl _) (λhr=>by unfold dp at hr;simp at hr) (λ_ _ _ _ _=>rfl) (λe=>by simp at e) (λe=>by simp at e)
theorem WsI.s2 (h:WsI c n N ml x)(y:cp c n N ml)(l:NuL c N x.st.s.W)(hB:CoB c B x.st)(hB0:40<=B)(hB1:B<=1000000000000){i:Nat}(hi:i<n)(b z:Int)(hp:(⟨2,1,b,z⟩:Sp)=sv x.U i)(ht:(sv x.st.T i).pc=0):WsI c n N ml (bv c N x i):=by refine kp ?_;intro hn hnn hk hdr oth oth9 bA bW bF wA wW lA lW lF fA fW HA HW HF SF eL mS lS lS' tS aS;show WsI c n N ml ⟨onA x.st (addA x.st.s (gaA (c.node i)) 1),x.d,x.U.set i ⟨3,1,b,z⟩⟩;exact h.upd (p':=⟨3,1,b,z⟩) hi lA.2 (λ_ _=>rfl) (.inr (.inl ⟨rfl,.inr (.inr (.inl rfl)),ht⟩)) (FW h hnn hi Q7 rfl lA.1) (eh h hi Q7 (fA)) HA (λhr=>by unfold dp at hr;simp at hr) (λ_ _ _ _ _=>rfl) (λe=>by simp at e) (λe=>by simp at e)
theorem WsI.s4 (h:WsI c n N ml x)(y:cp c n N ml)(l:NuL c N x.st.s.W)(hB:CoB c B x.st)(hB0:40<=B)(hB1:B<=1000000000000){i:Nat}(hi:i<n)(b z:Int)(hp:(⟨4,1,b,z⟩:Sp)=sv x.U i)(ht:(sv x.st.T i).pc=0):WsI c n N ml (bv c N x i):=by refine kp ?_;intro hn hnn hk hdr oth oth9 bA bW bF wA wW lA lW lF fA fW HA HW HF SF eL mS lS lS' tS aS;show WsI c n N ml ⟨onA x.st (addA x.st.s (gaW (c.node i)) 1),x.d,x.U.set i ⟨1,1,b,z⟩⟩;exact h.upd (p':=⟨1,1,b,z⟩) hi lW.2 (λ_ _=>rfl) (.inr (.inl ⟨rfl,.inl rfl,ht⟩)) (zY h hnn hi Q7 rfl lW.1) (eh h hi Q7 (fW)) HW (λhr=>by unfold dp at hr;simp at hr) (λ_ _ _ _ _=>rfl) (λe=>by simp at e) (λe=>by simp at e)
theorem WsI.s11 (h:WsI c n N ml x)(y:cp c n N ml)(l:NuL c N x.st.s.W)(hB:CoB c B x.st)(hB0:40<=B)(hB1:B<=1000000000000){i:Nat}(hi:i<n)(b z:Int)(hp:(⟨11,1,b,z⟩:Sp)=sv x.U i)(ht:(sv x.st.T i).pc=0):WsI c n N ml (bv c N x i):=by refine kp ?_;intro hn hnn hk hdr oth oth9 bA bW bF wA wW lA lW lF fA fW HA HW HF SF eL mS lS lS' tS aS;show WsI c n N ml ⟨onA x.st (addA x.st.s (gaW (c.node i)) 1),x.d,x.U.set i ⟨0,1,b,z⟩⟩;exact h.upd (p':=⟨0,1,b,z⟩) hi lW.2 (λ_ _=>rfl) (.inl ⟨rfl,ht⟩) (zY h hnn hi Q7 rfl lW.1) (eh h hi Q7 (fW)) HW (λhr=>by unfold dp at hr;simp at hr) (λ_ _ _ _ _=>rfl) (λe=>by simp at e) (λe=>by simp at e)
theorem WsI.s5 (h:WsI c n N ml x)(y:cp c n N ml)(l:NuL c N x.st.s.W)(hB:CoB c B x.st)(hB0:40<=B)(hB1:B<=1000000000000){i:Nat}(hi:i<n)(b z:Int)(hp:(⟨5,0,b,z⟩:Sp)=sv x.U i)(ht:(sv x.st.T i).pc=0):WsI c n N ml (bv c N x i):=by
 refine kp ?_;intro hn hnn hk hdr oth oth9 bA bW bF wA wW lA lW lF fA fW HA HW HF SF eL mS lS lS' tS aS;show WsI c n N ml ⟨bD c (onA x.st (addA x.st.s (nuFl N) (1))) i,x.d,x.U.set i ⟨7,0,b,z⟩⟩;have hm:=(lF _ (show(1:Int)=1\/(1:Int)= -1 by omega)).2.ask y hi;have hs:=gq c (onA x.st (addA x.st.s (nuFl N) (1))) i;have hT:=gZ (c:=c) (st:=(onA x.st (addA x.st.s (nuFl N) (1)))) (j:=i) (lF _ (show(1:Int)=1\/(1:Int)= -1 by omega)).2.v hi;have hT':(sv (bD c (onA x.st (addA x.st.s (nuFl N) (1))) i).T i).pc=1:=hT.2 ht;refine h.upd (p':=⟨7,0,b,z⟩) hi hm (λj hj=>(gZ (c:=c) (st:=(onA x.st (addA x.st.s (nuFl N) (1)))) (lF _ (show(1:Int)=1\/(1:Int)= -1 by omega)).2.v hi).1 hj) (.inr (.inr (.inr (.inl ⟨rfl,rfl,by omega,by omega⟩)))) ?_ ?_ (λa ha=>?_) (λhr=>by unfold dp at hr;simp at hr) (λ_ _ _ _ _=>rfl) (λ_ e=>by simp at e) (λ_ e=>by simp at e);·show ∀a,a<N->ldW (bD c (onA x.st (addA x.st.s (nuFl N) (1))) i).s.W _=_;rw[hs];exact(dD h hi Q7 (SF _ (show(1:Int)=1\/(1:Int)= -1 by omega)))
 ·show ldW (bD c (onA x.st (addA x.st.s (nuFl N) (1))) i).s.W _=_;rw[hs];exact(Hr h hi Q7 rfl (by show ldW (addA _ _ _).W _=_;rw[(lF _ (show(1:Int)=1\/(1:Int)= -1 by omega)).1,if_pos rfl]))
 ·show _<=ldW (bD c (onA x.st (addA x.st.s (nuFl N) (1))) i).s.W _;rw[hs];exact HF _ (show(1:Int)=1\/(1:Int)= -1 by omega) a ha
theorem WsI.s12 (h:WsI c n N ml x)(y:cp c n N ml)(l:NuL c N x.st.s.W)(hB:CoB c B x.st)(hB0:40<=B)(hB1:B<=1000000000000){i:Nat}(hi:i<n)(b z:Int)(hp:(⟨12,0,b,z⟩:Sp)=sv x.U i)(ht:(sv x.st.T i).pc=10):WsI c n N ml (bv c N x i):=by
 refine kp ?_;intro hn hnn hk hdr oth oth9 bA bW bF wA wW lA lW lF fA fW HA HW HF SF eL mS lS lS' tS aS;show WsI c n N ml ⟨ay (onA x.st (addA x.st.s (nuFl N) (-1))) i,x.d,x.U.set i ⟨13,0,b,z⟩⟩;have hm:=(lF _ (show(-1:Int)=1\/(-1:Int)= -1 by omega)).2.leave y hi;have hs:=fu (onA x.st (addA x.st.s (nuFl N) (-1))) i;have hT:=eM (st:=(onA x.st (addA x.st.s (nuFl N) (-1)))) (j:=i) (lF _ (show(-1:Int)=1\/(-1:Int)= -1 by omega)).2.v hi;have hT':(sv (ay (onA x.st (addA x.st.s (nuFl N) (-1))) i).T i).pc=11:=hT.2 ht;refine h.upd (p':=⟨13,0,b,z⟩) hi hm (λj hj=>(eM (st:=(onA x.st (addA x.st.s (nuFl N) (-1)))) (lF _ (show(-1:Int)=1\/(-1:Int)= -1 by omega)).2.v hi).1 hj) (.inr (.inr (.inr (.inr (.inr ⟨rfl,rfl,by omega⟩))))) ?_ ?_ (λa ha=>?_) (λhr=>by unfold dp at hr;simp at hr) (λ_ _ _ _ _=>rfl) (λ_ e=>by simp at e) (λ_ e=>by simp at e);·show ∀a,a<N->ldW (ay (onA x.st (addA x.st.s (nuFl N) (-1))) i).s.W _=_;rw[hs];exact(dD h hi Q7 (SF _ (show(-1:Int)=1\/(-1:Int)= -1 by omega)))
 ·show ldW (ay (onA x.st (addA x.st.s (nuFl N) (-1))) i).s.W _=_;rw[hs];exact(Eu h hi Q7 rfl (by show ldW (addA _ _ _).W _=_;rw[(lF _ (show(-1:Int)=1\/(-1:Int)= -1 by omega)).1,if_pos rfl]))
 ·show _<=ldW (ay (onA x.st (addA x.st.s (nuFl N) (-1))) i).s.W _;rw[hs];exact HF _ (show(-1:Int)=1\/(-1:Int)= -1 by omega) a ha
theorem WsI.s7 (h:WsI c n N ml x)(y:cp c n N ml)(l:NuL c N x.st.s.W)(hB:CoB c B x.st)(hB0:40<=B)(hB1:B<=1000000000000){i:Nat}(hi:i<n)(b z:Int)(hp:(⟨7,0,b,z⟩:Sp)=sv x.U i)(ht:0<(sv x.st.T i).pc/\(sv x.st.T i).pc<10):WsI c n N ml (bv c N x i):=by
 refine kp ?_;intro hn hnn hk hdr oth oth9 bA bW bF wA wW lA lW lF fA fW HA HW HF SF eL mS lS lS' tS aS;have a1:=aS.1 ht;show WsI c n N ml ⟨ak c x.st i,if bf (sv x.st.T i) (sv (ak c x.st i).T i)then dM x.d N false else x.d,x.U.set i ⟨if bf (sv x.st.T i) (sv (ak c x.st i).T i)then 9 else 7,0,b,z⟩⟩;rw[a1.2];by_cases e10:(sv (ak c x.st i).T i).pc=10;·rw[decide_eq_true e10];refine h.upd (p':=⟨9,0,b,z⟩) (d':=dM x.d N false) hi mS tS (.inr (.inr (.inr (.inr (.inl ⟨rfl,.inl rfl,e10⟩))))) (dD h hi Q7 (λq hq=>lS' q QX)) (eh h hi Q7 (lS' _ (Int.le_refl _))) (λa ha=>by rw[lS' _ Q9];exact Int.le_refl _) (λhr=>by unfold dp at hr;simp at hr) (λj hj e h0 h9=>?_) (λ_ _=>⟨⟨rfl,rfl,by show 1<=N;omega,rfl⟩,λe=>by simp[dM]at e,λj hj _=>Nat.zero_le _⟩) (λ_ e=>by simp at e);have h2:=(DW (h.k j hj) ⟨h0,.inl h9⟩:_);have h3:=mS.one y hj hi (by rw[tS j e];omega) QX;exact absurd h3 e
 ·rw[decide_eq_false e10];exact h.upd (p':=⟨7,0,b,z⟩) hi mS tS (.inr (.inr (.inr (.inl ⟨rfl,rfl,by have a2:=a1.1;omega,by have a2:=a1.1;omega⟩)))) (dD h hi Rd (λq hq=>lS' q QX)) (eh h hi Rd (lS' _ (Int.le_refl _))) (λa ha=>by rw[lS' _ Q9];exact Int.le_refl _) (λhr=>by unfold dp at hr;simp at hr) (λ_ _ _ _ _=>rfl) (λ_ e=>by simp at e) (λ_ e=>by simp at e)
theorem WsI.s13 (h:WsI c n N ml x)(y:cp c n N ml)(l:NuL c N x.st.s.W)(hB:CoB c B x.st)(hB0:40<=B)(hB1:B<=1000000000000){i:Nat}(hi:i<n)(b z:Int)(hp:(⟨13,0,b,z⟩:Sp)=sv x.U i)(ht:10<(sv x.st.T i).pc):WsI c n N ml (bv c N x i):=by
 refine kp ?_;intro hn hnn hk hdr oth oth9 bA bW bF wA wW lA lW lF fA fW HA HW HF SF eL mS lS lS' tS aS;have a1:=aS.2 ht;show WsI c n N ml ⟨ak c x.st i,x.d,x.U.set i ⟨if bf (sv x.st.T i) (sv (ak c x.st i).T i)then 0 else 13,0,b,z⟩⟩;rw[a1.2];by_cases e10:(sv (ak c x.st i).T i).pc=0;·rw[decide_eq_true e10];exact h.upd (p':=⟨0,0,b,z⟩) hi mS tS (.inl ⟨rfl,e10⟩) (dD h hi Q7 (λq hq=>lS' q QX)) (eh h hi Q7 (lS' _ (Int.le_refl _))) (λa ha=>by rw[lS' _ Q9];exact Int.le_refl _) (λhr=>by unfold dp at hr;simp at hr) (λ_ _ _ _ _=>rfl) (λ_ e=>by simp at e) (λ_ e=>by simp at e)
 ·rw[decide_eq_false e10];exact h.upd (p':=⟨13,0,b,z⟩) hi mS tS (.inr (.inr (.inr (.inr (.inr ⟨rfl,rfl,by have a2:=a1.1;omega⟩))))) (dD h hi Rd (λq hq=>lS' q QX)) (eh h hi Rd (lS' _ (Int.le_refl _))) (λa ha=>by rw[lS' _ Q9];exact Int.le_refl _) (λhr=>by unfold dp at hr;simp at hr) (λ_ _ _ _ _=>rfl) (λ_ e=>by simp at e) (λ_ e=>by simp at e)
theorem WsI.s9 (h:WsI c n N ml x)(y:cp c n N ml)(l:NuL c N x.st.s.W)(hB:CoB c B x.st)(hB0:40<=B)(hB1:B<=1000000000000){i:Nat}(hi:i<n)(b z:Int)(hp:(⟨9,0,b,z⟩:Sp)=sv x.U i)(ht:(sv x.st.T i).pc=10):WsI c n N ml (bv c N x i):=by
 refine kp ?_;intro hn hnn hk hdr oth oth9 bA bW bF wA wW lA lW lF fA fW HA HW HF SF eL mS lS lS' tS aS;obtain⟨⟨q1,q2,q3,q4⟩,q5,q6⟩:=hdr rfl rfl;have hW:=gJ x.st.s x.d;have hs:=svS (show i<x.U.length by rw[h.lU];exact hi)
 have nr:∀pc' j,dp (sv (x.U.set i ⟨pc',0,b,z⟩) j)->j≠i/\dp (sv x.U j):=λpc' j hr=>by
  rw[hs]at hr;split at hr;·unfold dp at hr;simp at hr
  ·rename_i e;exact⟨e,hr⟩
 have go:∀(pc':Int) (d':Dr),(pc'=9\/pc'=10)->(pc'=9->yK c n N d' x.st.s.W (x.U.set i ⟨pc',0,b,z⟩))->(pc'=10->∀j,j<n->j≠i->¬dp (sv x.U j))->WsI c n N ml ⟨onA x.st (ah x.st.s x.d).1,d',x.U.set i ⟨pc',0,b,z⟩⟩:=λpc' d' hpc o9 o10=>by
  refine h.upd (p':=⟨pc',0,b,z⟩) hi (kO h y hW) (λ_ _=>rfl) (.inr (.inr (.inr (.inr (.inl ⟨rfl,?_,ht⟩))))) (dD h hi ?_ (λq _=>by show ldW (ah _ _).1.W q=_;rw[hW])) (eh h hi ?_ (by show ldW (ah _ _).1.W _=_;rw[hW])) (λa _=>by show _<=ldW (ah _ _).1.W _;rw[hW];exact Int.le_refl _) (λhr=>by unfold dp at hr;simp at hr) (λj hj e h0 h9=>(oth9 ht j hj e h0 h9).elim) (λ_ h9=>?_) (λ_ h10=>o10 h10)
  ·rcases hpc with rfl|rfl
   ·exact .inl rfl
   ·exact .inr (.inl rfl)
  ·rw[<-hp,qS QY,qS QY]
  ·rw[<-hp];rcases hpc with rfl|rfl<;>rfl
  ·show yK c n N d' (ah _ _).1.W _;rw[hW];exact o9 h9
 show WsI c n N ml ⟨onA x.st (ah x.st.s x.d).1,(ah x.st.s x.d).2.1,x.U.set i ⟨if (ah x.st.s x.d).2.2=true then 10 else 9,0,b,z⟩⟩;by_cases hsec:x.d.second=true
 ·have e1:ah x.st.s x.d=(ae x.st.s (gaA x.d.at_),dL x.st.s x.d):=by unfold ah;rw[q1,hsec];rfl
  have e2:(ah x.st.s x.d).2=dL x.st.s x.d:=by rw[e1]
  rw[e2];unfold dL;by_cases hv:ldW x.st.s.W (gaA x.d.at_)=x.d.o
  ·rw[if_neg (by simpa using hv)];have hg:=h.g x.d.at_ q3;have hout:=q5 hsec;have hcz:gI c n x.U x.d.at_=0:=by omega
   have hno:∀j,j<n->dp (sv x.U j)->c.node j≠x.d.at_:=λj hj hr e=>by
    have:0<gI c n x.U x.d.at_:=jn (P:=λj=>decide (c.node j=x.d.at_)&&fm (sv x.U j)) hj (by
     simp only[Bool.and_eq_true,decide_eq_true_eq]
     exact⟨e,Da ⟨hr.1,.inr (.inr hr.2)⟩⟩)
    omega
   by_cases hend:x.d.at_+1=x.d.lim;·rw[if_pos hend];refine go 10 _ (.inr rfl) (λe=>by simp at e) (λ_ j hj e hr=>?_);have h1:=q6 j hj hr;have h2:=hno j hj hr;have h3:=hnn j hj;omega
   ·rw[if_neg hend];refine go 9 _ (.inl rfl) (λ_=>⟨⟨q1,q2,by show x.d.at_+1<N;omega,q4⟩,λe=>by simp at e,λj hj hr=>?_⟩) (λe=>by simp at e);exact KP
  ·rw[if_pos hv,if_neg (by rw[q2];decide)];exact go 9 _ (.inl rfl) (λ_=>⟨⟨q1,q2,q3,q4⟩,λe=>by simp at e,λj hj hr=>q6 j hj (nr 9 j hr).2⟩) (λe=>by simp at e)
 ·have e1:ah x.st.s x.d=(ae x.st.s (gaW x.d.at_),{x.d with o:=ldW x.st.s.W (gaW x.d.at_),second:=true},false):=by unfold ah;rw[if_pos q1,if_neg hsec]
  have e2:(ah x.st.s x.d).2=({x.d with o:=ldW x.st.s.W (gaW x.d.at_),second:=true},false):=by rw[e1]
  rw[e2];exact go 9 _ (.inl rfl) (λ_=>⟨⟨q1,q2,q3,q4⟩,λ_=>Int.le_refl _,λj hj hr=>q6 j hj (nr 9 j hr).2⟩) (λe=>by simp at e)
theorem WsI.step (h:WsI c n N ml x)(y:cp c n N ml)(l:NuL c N x.st.s.W)(hB:CoB c B x.st)(hB0:40<=B)(hB1:B<=1000000000000){i:Nat}(hi:i<n):WsI c n N ml (bv c N x i):=by
 have hk:=h.k i hi;obtain⟨p,hp⟩:∃p,p=sv x.U i:=⟨_,rfl⟩;rw[<-hp]at hk;by_cases hne:p.pc=0\/p.pc=10;·unfold bv;rw[<-hp,if_pos hne];exact h
 unfold hY at hk;obtain⟨pc,u,b,z⟩:=p;simp only at hk hne;rcases hk with⟨q1,q2⟩|⟨rfl,q2,q3⟩|⟨rfl,rfl,q3⟩|⟨rfl,rfl,q3⟩|⟨rfl,q2,q3⟩|⟨rfl,rfl,q3⟩
 ·exact absurd (.inl q1) hne
 ·rcases q2 with rfl|rfl|rfl|rfl|rfl|rfl
  ·exact h.s1 y l hB hB0 hB1 hi b z hp q3
  ·exact h.s2 y l hB hB0 hB1 hi b z hp q3
  ·exact h.s3 y l hB hB0 hB1 hi b z hp q3
  ·exact h.s4 y l hB hB0 hB1 hi b z hp q3
  ·exact absurd (.inr rfl) hne
  ·exact h.s11 y l hB hB0 hB1 hi b z hp q3
 ·exact h.s5 y l hB hB0 hB1 hi b z hp q3
 ·exact h.s7 y l hB hB0 hB1 hi b z hp q3
 ·rcases q2 with rfl|rfl|rfl
  ·exact h.s9 y l hB hB0 hB1 hi b z hp q3
  ·exact absurd (.inr rfl) hne
  ·exact h.s12 y l hB hB0 hB1 hi b z hp q3
 ·exact h.s13 y l hB hB0 hB1 hi b z hp q3
end
end
section
open Go Go.RowKit
section
variable{c:CoC}{n N L:Nat}{ml:Nat->Nat}{x:Nu}{st:Co}{B:Int}{o:Nat}
theorem yF (h:bH c n L B o x.st)(k:kB c n N L)(hB:40<=B)(hB2:B<=1000000000000){i:Nat}(hi:i<n)(p:Sp)(hf:p.a≠1->p.pc=12->1<=ldW x.st.s.W (nuFl N)):bH c n L (B+4) (o+1) (jf c N x i p).1:=by
 have hadd:∀z,bH c n L (B+2) (o+1) (onA x.st (addA x.st.s z 1)):=λz=>h.on QX (h.bd.w.add1 QX QX z) (kQ _ _ _);have hld:∀z,bH c n L (B+2) (o+1) (onA x.st (ae x.st.s z)):=λz=>h.on QX ((h.bd.w.mono QX).load _) (fX _ _);have hst:∀z v,0<=v/\v<=1->bH c n L (B+2) (o+1) (onA x.st (ac x.st.s z v)):=λz v hv=>h.on QX ((h.bd.w.mono QX).store z v QX) (iJ _ _ _);have hask:∀{st'},bH c n L (B+2) (o+1) st'->bH c n L (B+4) (o+1) (bD c st' i):=λ{st'} q=>by exact Kh
 have hlv:∀{st'},bH c n L (B+2) (o+1) st'->bH c n L (B+4) (o+1) (ay st' i):=λ{st'} q=>by exact Ki
 have hdr:bH c n L (B+4) (o+1) (onA x.st (ah x.st.s x.d).1):=h.on QX ((h.bd.w.mono QX).same (gJ _ _)) (uq _ _);have hsub:1<=ldW x.st.s.W (nuFl N)->bH c n L (B+2) (o+1) (onA x.st (addA x.st.s (nuFl N) (-1))):=λhq=>h.on QX ((h.bd.w.mono QX).st (nuFl N) (ldW x.st.s.W (nuFl N)+ -1) (by have:=(h.bd.w.ld QX (nuFl N)).2;omega) (by rw[dR,IntWalk.i64_in _ (by have:=(h.bd.w.ld QX (nuFl N)).2;omega)])) (kQ _ _ _);unfold jf;split
 ·split;·exact(hld _).mono QX
  split;·exact Kj
  split;·exact(hld _).mono QX
  split;·exact Kj
  ·exact Kj
 rename_i hne;split;·exact hask (hadd _)
 split;·exact Kl
 split;·exact hdr
 split;·rename_i e12;exact hlv (hsub (hf hne e12))
 ·exact Kl
theorem yG (h:bH c n L B o x.st)(k:kB c n N L)(hB:40<=B)(hB2:B<=1000000000000){i:Nat}(hi:i<n)(hf:(sv x.U i).a≠1->(sv x.U i).pc=12->1<=ldW x.st.s.W (nuFl N)):bH c n L (B+4) (o+1) (bv c N x i).st:=by
 unfold bv;split;·exact h.up QX QX
 ·exact yF h k hB hB2 hi _ hf
theorem ta (x:Nu)(i:Nat)(r:Bool):(gj x i r).st=x.st:=by unfold gj;split<;>rfl
theorem WsI.f12 (h:WsI c n N ml x){i:Nat}(hi:i<n):(sv x.U i).a≠1->(sv x.U i).pc=12->1<=ldW x.st.s.W (nuFl N):=λha h12=>by
 have hk:=h.k i hi
 have hz:(sv x.U i).a=0:=by unfold hY at hk;omega
 apply Classical.byContradiction
 intro hn
 have hc:=h.fl
 exact h.none QX hi ⟨hz,.inr (.inr (.inr h12))⟩
structure WsS (c:CoC)(n N L:Nat)(ml:Nat->Nat)(B:Int)(x:Nu):Prop where
 i:WsI c n N ml x
 ok:bH c n L B x.st.s.ops x.st
def rq (c:CoC)(N:Nat)(x:Nu)(kd i:Int):Nu:=
 if okI x.U i then if kd=0 then bv c N x i.toNat else if kd=1 then gj x i.toNat false else if kd=2 then aJ x i.toNat else if kd=3 then gj x i.toNat true else x else x
theorem WsS.act (h:WsS c n N L ml B x) (k:NuK c n N L ml) (hB:40<=B) (hB2:B<=1000000000000) (kd i:Int):
    WsS c n N L ml (B+4) (rq c N x kd i)/\(rq c N x kd i).st.s.ops<=x.st.s.ops+1/\(kd≠0->(rq c N x kd i).st.s.ops=x.st.s.ops):=by
  have same:WsS c n N L ml (B+4) x:=⟨h.i,h.ok.mono QX⟩;unfold rq;split
  · rename_i hok;have hi:i.toNat<n:=(by exact Km);split;· rename_i k0;have q:=yG h.ok k.w hB hB2 hi (h.i.f12 hi);refine⟨⟨h.i.step k.y ⟨k.tg,by rw[h.ok.len];exact k.len⟩ h.ok.bd hB hB2 hi,⟨q.bd,q.v,q.len,Nat.le_refl _⟩⟩,q.ops,λe=>absurd k0 e⟩
    split;· have e:=ta x i.toNat false;refine⟨⟨h.i.ask hi false,by rw[e];exact same.ok⟩,by rw[e];omega,λ_=>by rw[e]⟩
    split;· have e:=kz x i.toNat;refine⟨⟨h.i.leave hi,by rw[e];exact same.ok⟩,by rw[e];omega,λ_=>by rw[e]⟩
    split;· have e:=ta x i.toNat true;refine⟨⟨h.i.ask hi true,by rw[e];exact same.ok⟩,by rw[e];omega,λ_=>by rw[e]⟩
    · exact⟨same,by omega,λ_=>rfl⟩
  · exact⟨same,by omega,λ_=>rfl⟩
end
section
variable{kg kl par:Nat}{bud:Int}{P T:List Int}{s:Ar}
theorem Ip (hc:a5 P T=0) (hkg:1<=kg/\kg<=5) (hkl:1<=kl/\kl<=5) (hp:1<=par/\par<=4) (hs:s.W=[]):
    WsS (eV kg kl par bud P T (smA s (ab P).length)) T.length (ab P).length (bz kg kl par P T (smA s (ab P).length)).s.W.length (mtQ P T) 40 ⟨bz kg kl par P T (smA s (ab P).length),dr0,List.replicate T.length Sp.zero⟩/\(bz kg kl par P T (smA s (ab P).length)).s.ops<=s.ops+40:=by
  have hz:=wu hs (ab P).length;have h40:WdB 40 (smA s (ab P).length):=hz.1.mono QX;have hok:=nY (kg:=kg) (kl:=kl) (par:=par) (bud:=bud) hc h40;have hw:∀y:Int,y<=((smA s (ab P).length).W.length:Int)->ldW (bz kg kl par P T (smA s (ab P).length)).s.W y=0:=λy hy=>by exact Kn
  have hsv:∀i,sv (List.replicate T.length Sp.zero) i=Sp.zero:=svR _;refine⟨⟨⟨vO hc hkg hkl hp h40,by simp,λi hi=> .inl ⟨?_,?_⟩,λa ha=>?_,?_,λi hi h0 h9=>?_,λi hi h0 h9=>?_⟩,⟨hok.bd,hok.v,hok.len,Nat.le_refl _⟩⟩,hok.ops⟩;· show(sv (List.replicate T.length Sp.zero) i).pc=0;rw[hsv];rfl
  · show(sv (List.replicate T.length Sp.zero) i).pc=0;rw[hsv];rfl
  · have hc0:gI (eV kg kl par bud P T (smA s (ab P).length)) T.length (List.replicate T.length Sp.zero) a=0:=(by unfold gI i2;refine List.countP_eq_zero.2 (λj _=>?_);rw[hsv];simp[fm,Sp.zero]);show ldW _ _=ldW _ _+((gI _ _ (List.replicate T.length Sp.zero) a:Nat):Int);rw[hc0];have g1:=eH ha;have g2:=bB ha;unfold nuFl at g1 g2;have hl:=hz.2;rw[hw _ Rz,hw _ Rz];rfl
  · have hc0:lr T.length (List.replicate T.length Sp.zero)=0:=(by unfold lr i2;refine List.countP_eq_zero.2 (λj _=>?_);rw[hsv];simp[wrC,Sp.zero]);show ldW _ _=((lr _ (List.replicate T.length Sp.zero):Nat):Int);rw[hc0];have hl:=hz.2;rw[hw _ (by rw[hl];unfold nuFl;omega)];rfl
  · have h9':(sv (List.replicate T.length Sp.zero) i).pc=9:=h9;rw[hsv]at h9';simp[Sp.zero]at h9'
  · have h9':(sv (List.replicate T.length Sp.zero) i).pc=10:=h9;rw[hsv]at h9';simp[Sp.zero]at h9'
end
end
section
open Go Go.RowKit
theorem ky (x:Nu)(i:Nat)(hi:i<x.U.length)(ha:(sv x.U i).pc=10->(sv x.U i).a=0\/(sv x.U i).a=1):kq (sv x.U i).pc (sv (aJ x i).U i).pc=decide ((sv x.U i).pc=10):=by
 unfold aJ kq;split;·rename_i e;have:=ha e;rw[decide_eq_true e];refine decide_eq_true (.inl ⟨.inr e,?_⟩);rw[show({x with U:=x.U.set i {sv x.U i with pc:=12-(sv x.U i).a}}:Nu).U=x.U.set i {sv x.U i with pc:=12-(sv x.U i).a} from rfl,fR hi,if_pos rfl];dsimp only;omega
 ·rename_i e;rw[decide_eq_false e];exact decide_eq_false QX
def wj:mr where
 ty:=330
 pt:=274
 md:=1
 step:=cB
 ask:=λc x i r=>cy c x i r
 ok:=NuS
theorem Bi{c:CoC}{P T:List Int}{L:Nat}(hk:NuK c T.length (ab P).length L (mtQ P T)):wj.Ok c P T L where
 act:=λB x hs h1 h2 i hi=>by
  have hl:okI x.U (i:Int):=⟨by omega,by rw[hs.i.lU];omega⟩
  have a0:=NuS.act hs hk h1 h2 0 (i:Int)
  have a1:=λr:Bool=>NuS.act hs hk h1 h2 (if r then 3 else 1) (i:Int)
  have a2:=NuS.act hs hk h1 h2 2 (i:Int)
  unfold rm at a0 a1 a2
  exact KQ
 mono:=λB B' x h hB=>⟨h.i,h.ok.mono hB⟩
 lU:=λB x h=>h.i.lU
 safe:=λB x h i j hi hj h1 h2 h3=>h.i.safe hk.y hi h1 h3 hj h2
 link:=λB x h i hi=>by
  have:=h.i.k i hi
  unfold gL at this
  omega
 askS:=λx i r=>by
  exact KR
 cS:=λB BC w a g X q x BB i h hs hB ho hb hi=>by
  have C:=bH.pre (x:=X.x) (by rw[h.nT.1];exact hs.ok) Sb h.co.fx hB.1 hB.2 ho
  have k:=Dk h i hi (hs.i.k i hi) ho hk.N1 (λh9 hb9=>((hs.i.dr i hi (by have:=hs.i.k i hi;unfold gL at this;show(sv x.U i).a=0;omega) h9).1.2.2.1)) C
  refine(Cy hb (i:Int) (R:=λr w'=>r=dA (sv x.U i) (sv (cB c (ab P).length x i).U i)/\av 330 B BC w' a g X c P T (cB c (ab P).length x i).st (cB c (ab P).length x i).d (cB c (ab P).length x i).U/\aa (SmS a g X) w w') (k.mono ?_)).mono λ_ _ q=>q.to λ_ _ q=>q
  rintro e w' ⟨rfl,k2,t2⟩
  refine⟨_,rfl,?_,k2,t2⟩
  by_cases e:(sv x.U i).pc=0\/(sv x.U i).pc=10
  ·rw[show cB c (ab P).length x i=x by unfold cB;rw[if_pos e]]
   exact KT
  ·unfold dA kq
   by_cases f:(sv (cB c (ab P).length x i).U i).pc=10\/(sv (cB c (ab P).length x i).U i).pc=0
   ·exact KU
   ·exact KV
 cA:=λB BC w a g X q x i r h hb hi=>by
  have hl:i<x.U.length:=by rw[h.lU];exact hi
  refine(Er hb (i:Int) r (R:=λb w'=>b=decide ((sv x.U i).pc=0)/\av 330 B BC w' a g X c P T (cy c x i r).st (cy c x i r).d (cy c x i r).U/\aa (SmS a g X) w w') ((D4 h i hi r).mono ?_)).mono λ_ _ q=>q.to λ_ _ q=>q
  exact KW
 cL:=λB BC w a g X q x i h hb hi ha=>by
  have hl:i<x.U.length:=by rw[h.lU];exact hi
  refine(zF hb (i:Int) (R:=λb w'=>b=decide ((sv x.U i).pc=10)/\av 330 B BC w' a g X c P T (aJ x i).st (aJ x i).d (aJ x i).U/\aa (SmS a g X) w w') ((Ap h i hi ha).mono ?_)).mono λ_ _ q=>q.to λ_ _ q=>q
  exact KX
 cP:=λB BC w a g X q x i h hb hi=>Cu hb (i:Int) _ λW b=>by
  have k:=oA (h.below b) (i:Int)
  exact KY
def ws:mr where
 ty:=335
 pt:=277
 md:=2
 step:=a8
 ask:=λc x i r=>cy c x i r
 ok:=RsS
theorem Bj{c:CoC}{P T:List Int}{L:Nat}(hk:NuK c T.length (ab P).length L (mtQ P T)):ws.Ok c P T L where
 act:=λB x hs h1 h2 i hi=>by
  have hl:okI x.U (i:Int):=⟨by omega,by rw[hs.i.lU];omega⟩
  have a0:=RsS.act hs hk h1 h2 0 (i:Int)
  have a1:=λr:Bool=>RsS.act hs hk h1 h2 (if r then 3 else 1) (i:Int)
  have a2:=RsS.act hs hk h1 h2 2 (i:Int)
  unfold rp at a0 a1 a2
  exact KQ
 mono:=λB B' x h hB=>⟨h.i,h.ok.mono hB,h.dok⟩
 lU:=λB x h=>h.i.lU
 safe:=λB x h i j hi hj h1 h2 h3=>h.i.safe hk.y hi h1 h3 hj h2
 link:=λB x h i hi=>by
  have:=h.i.k i hi
  unfold iE at this
  omega
 askS:=λx i r=>by
  exact KR
 cS:=λB BC w a g X q x BB i h hs hB ho hb hi=>by
  have C:=bH.pre (x:=X.x) (by rw[h.nT.1];exact hs.ok) Sb h.co.fx hB.1 hB.2 ho
  have k:=Dl h i hi (hs.i.k i hi) ho hk.N1 (λ_ _ hb=>(hs.dok hb).1) C
  refine(Cz hb (i:Int) (R:=λr w'=>r=dA (sv x.U i) (sv (a8 c (ab P).length x i).U i)/\av 335 B BC w' a g X c P T (a8 c (ab P).length x i).st (a8 c (ab P).length x i).d (a8 c (ab P).length x i).U/\aa (SmS a g X) w w') (k.mono ?_)).mono λ_ _ q=>q.to λ_ _ q=>q
  rintro e w' ⟨rfl,k2,t2⟩
  refine⟨_,rfl,?_,k2,t2⟩
  by_cases e:(sv x.U i).pc=0\/(sv x.U i).pc=10
  ·rw[show a8 c (ab P).length x i=x by unfold a8;rw[if_pos e]]
   exact KT
  ·unfold dA kq
   by_cases f:(sv (a8 c (ab P).length x i).U i).pc=10\/(sv (a8 c (ab P).length x i).U i).pc=0
   ·exact KU
   ·exact KV
 cA:=λB BC w a g X q x i r h hb hi=>by
  have hl:i<x.U.length:=by rw[h.lU];exact hi
  refine(Es hb (i:Int) r (R:=λb w'=>b=decide ((sv x.U i).pc=0)/\av 335 B BC w' a g X c P T (cy c x i r).st (cy c x i r).d (cy c x i r).U/\aa (SmS a g X) w w') ((D5 h i hi r).mono ?_)).mono λ_ _ q=>q.to λ_ _ q=>q
  exact KW
 cL:=λB BC w a g X q x i h hb hi ha=>by
  have hl:i<x.U.length:=by rw[h.lU];exact hi
  refine(zG hb (i:Int) (R:=λb w'=>b=decide ((sv x.U i).pc=10)/\av 335 B BC w' a g X c P T (aJ x i).st (aJ x i).d (aJ x i).U/\aa (SmS a g X) w w') ((Aq h i hi ha).mono ?_)).mono λ_ _ q=>q.to λ_ _ q=>q
  exact KX
 cP:=λB BC w a g X q x i h hb hi=>Cv hb (i:Int) _ λW b=>by
  have k:=oC (h.below b) (i:Int)
  exact KY
def wt:mr where
 ty:=337
 pt:=280
 md:=3
 step:=bv
 ask:=λc x i r=>gj x i r
 ok:=WsS
theorem Bk{c:CoC}{P T:List Int}{L:Nat}(hk:NuK c T.length (ab P).length L (mtQ P T)):wt.Ok c P T L where
 act:=λB x hs h1 h2 i hi=>by
  have hl:okI x.U (i:Int):=⟨by omega,by rw[hs.i.lU];omega⟩
  have a0:=WsS.act hs hk h1 h2 0 (i:Int)
  have a1:=λr:Bool=>WsS.act hs hk h1 h2 (if r then 3 else 1) (i:Int)
  have a2:=WsS.act hs hk h1 h2 2 (i:Int)
  unfold rq at a0 a1 a2
  exact KQ
 mono:=λB B' x h hB=>⟨h.i,h.ok.mono hB⟩
 lU:=λB x h=>h.i.lU
 safe:=λB x h i j hi hj h1 h2 h3=>h.i.safe hk.y hi h1 h3 hj h2
 link:=λB x h i hi=>by
  have:=h.i.k i hi
  unfold hY at this
  omega
 askS:=λx i r=>by
  show(gj x i r).st.s=x.st.s
  unfold gj
  split
  ·rfl
  ·rfl
 cS:=λB BC w a g X q x BB i h hs hB ho hb hi=>by
  have C:=bH.pre (x:=X.x) (by rw[h.nT.1];exact hs.ok) Sb h.co.fx hB.1 hB.2 ho
  have k:=Dm h i hi (hs.i.k i hi) ho hk.N1 (λh0 h9 _=>((hs.i.dr i hi h0 h9).1.2.2.1)) C
  refine(CA hb (i:Int) (R:=λr w'=>r=dA (sv x.U i) (sv (bv c (ab P).length x i).U i)/\av 337 B BC w' a g X c P T (bv c (ab P).length x i).st (bv c (ab P).length x i).d (bv c (ab P).length x i).U/\aa (SmS a g X) w w') (k.mono ?_)).mono λ_ _ q=>q.to λ_ _ q=>q
  rintro e w' ⟨rfl,k2,t2⟩
  refine⟨_,rfl,?_,k2,t2⟩
  by_cases e:(sv x.U i).pc=0\/(sv x.U i).pc=10
  ·rw[show bv c (ab P).length x i=x by unfold bv;rw[if_pos e]]
   exact KT
  ·unfold dA kq
   by_cases f:(sv (bv c (ab P).length x i).U i).pc=10\/(sv (bv c (ab P).length x i).U i).pc=0
   ·exact KU
   ·exact KV
 cA:=λB BC w a g X q x i r h hb hi=>by
  have hl:i<x.U.length:=by rw[h.lU];exact hi
  refine(Et hb (i:Int) r (R:=λb w'=>b=decide ((sv x.U i).pc=0)/\av 337 B BC w' a g X c P T (gj x i r).st (gj x i r).d (gj x i r).U/\aa (SmS a g X) w w') ((D6 h i hi r).mono ?_)).mono λ_ _ q=>q.to λ_ _ q=>q
  rintro e w' ⟨rfl,k2,t2⟩
  refine⟨_,rfl,?_,k2,t2⟩
  unfold gj
  exact KZ
 cL:=λB BC w a g X q x i h hb hi ha=>by
  have hl:i<x.U.length:=by rw[h.lU];exact hi
  refine(zH hb (i:Int) (R:=λb w'=>b=decide ((sv x.U i).pc=10)/\av 337 B BC w' a g X c P T (aJ x i).st (aJ x i).d (aJ x i).U/\aa (SmS a g X) w w') ((As h i hi ha).mono ?_)).mono λ_ _ q=>q.to λ_ _ q=>q
  exact KX
 cP:=λB BC w a g X q x i h hb hi=>Cw hb (i:Int) _ λW b=>by
  have k:=oD (h.below b) (i:Int)
  exact KY
end
section
open Go.RowKit
def D0 (ty:TypeId)(w:World)(a g:Nat)(s:Ar)(kg kl par:Nat)(bud:Int)(P T:List Int)(e:Ending)(w':World):Prop:=
 ∃(B BC:Nat->Prop) (X:SmX),e= .returned (.tuple #[↑X.l,.int .i64 0])/\av ty B BC w' a g X (eV kg kl par bud P T (smA s (ab P).length)) P T (bz kg kl par P T (smA s (ab P).length)) dr0 (List.replicate T.length Sp.zero)/\(∀i∈SmS a g X,i=a\/i=g\/w.heap.size<=i)/\aa [a,g] w w'/\∀i,i<w.heap.size\/w'.heap.size<=i->¬B i/\¬eK X.x BC i/\i≠X.l/\i≠X.gg
inductive MdN:FuncId->TypeId->Prop
 |n:MdN 148 330
 |r:MdN 149 335
 |w:MdN 150 337
theorem Gt {f:FuncId} {ty:TypeId} (K:MdN f ty) {w:World} {a g:Nat} {s:Ar} (h:aA w a g s) (hs:s.W=[]) (hag:a≠g) (vP vT:Value) (P T:List Int) (hP:RdL w vP 1 encI P) (hT:RdL w vT 1 encI T) (hPa:∀i,vP.ownBlock=some i->i≠a/\i<w.heap.size) (hTa:∀i,vT.ownBlock=some i->i≠a/\i<w.heap.size) (hc:a5 P T=0) (kg kl:Nat) (hG:KOk kg) (hL:KOk kl) (par:Nat) (hp:1<=par/\par<=4) (bud:Int) (hb:0<=bud/\bud<=3) (hr:s.room=4096) (ho:s.ops<=1000):
    Calls Tryz.prog f #[.pointer (some ⟨a,0,none⟩),.agg #[vP,vT],.agg #[.int .i64 (kg:Int),.int .i64 (kl:Int),.int .i64 par,.int .i64 bud]] w λe w'=>D0 ty w a g s kg kl par bud P T e w':=by
  obtain⟨i0,hi,hz0,hz1,hz2⟩:=info_parts Tryz.infoSpF;have hml:=bh (aR hc).1;have ha0:=h.blk.lt;have hg0:=h.wds.lt;obtain⟨hT1,hT32⟩:1<=T.length/\T.length<=32:=⟨hml.2.2.1,hml.2.2.2⟩;have hN32:(ab P).length<=32:=by exact IK
  have hN1:1<=(ab P).length:=by exact Jm
  have HPD:=qh (And.intro hG (And.intro hL (And.intro hp hb)));have H:=qh (And.intro h (And.intro ha0 (And.intro hg0 hag)));have HRD:=qh (And.intro (And.intro hP hPa) (And.intro hT hTa));have HN:=qh (jw ((w.alloc (.cells #[vP,vT] 24)).alloc (.cells #[.int .i64 (kg:Int),.int .i64 (kl:Int),.int .i64 par,.int .i64 bud] 36)) vP vT P T ((hP.alloc _).alloc _) ((hT.alloc _).alloc _) hc);have HCK:=qh hc;have HS:=qh (And.intro hs (And.intro hr ho));have hlo:((w.alloc (.cells #[vP,vT] 24)).alloc (.cells #[.int .i64 (kg:Int),.int .i64 (kl:Int),.int .i64 par,.int .i64 bud] 36)).heap.size=w.heap.size+2:=by simp
  have B0:=qh (((Below.refl w.heap.size w).alloc (Nat.le_refl _) (.cells #[vP,vT] 24)).alloc QY (.cells #[.int .i64 (kg:Int),.int .i64 (kl:Int),.int .i64 par,.int .i64 bud] 36));have hbx:=Blk.new (w.alloc (.cells #[vP,vT] 24)) 36 #[.int .i64 (kg:Int),.int .i64 (kl:Int),.int .i64 par,.int .i64 bud];rw[show(w.alloc (.cells #[vP,vT] 24)).heap.size=w.heap.size+1 by simp]at hbx;have hbt:=(Blk.new w 24 #[vP,vT]).alloc (.cells #[.int .i64 (kg:Int),.int .i64 (kl:Int),.int .i64 par,.int .i64 bud] 36);have BX:=qh (And.intro hbx hbt);clear h hP hT hPa hTa hs hr ho hml ha0 hg0 hc hbx hbt hG hL hp hb hag;cases K
  all_goals
    first| go_enter Tryz.func148,Tryz.ntmps148| go_enter Tryz.func149,Tryz.ntmps149| go_enter Tryz.func150,Tryz.ntmps150
    go_wp2_with fail;refine HN.o.mono ?_;rintro en w1 ⟨b,rfl,hb,t1,b1⟩;rw[hlo]at hb t1 b1;have tn:aa [] ((w.alloc (.cells #[vP,vT] 24)).alloc (.cells #[.int .i64 (kg:Int),.int .i64 (kl:Int),.int .i64 par,.int .i64 bud] 36)) w1:=⟨b1.os,b1.tape,b1.output,b1.size,λi hi _=>b1.block i QX⟩;have K1:=qh (And.intro (t1.q HCK.o) (And.intro (B0.o.trans (b1.mono QX)) (And.intro (tn.blk BX.o.1 QY) (And.intro (tn.blk BX.o.2 QY) hb))));clear t1 b1 hb HN BX B0 tn;go_wp2_with fail;refine(dW _ _ _ _ (K1.o.1.tab HCK.o)).mono ?_;rintro en w1' ⟨rfl,rfl⟩;go_wp2_with (refine wpList_make_full _ rfl _ _ 237 rfl w1.heap.size 113 i0 (.agg #[.int .i64 0,.int .i64 0,.int .i64 0,.int .i64 0]) 4 Tryz.underlying237 hi hz0 hz1 .i64 .i64 T.length T.length T.length rfl rfl rfl rfl ?b2 ?b3 (Nat.le_refl _) ?_);case b2=>rw[hz2];omega
    case b3=>unfold maxLen;omega
    intro w4 hown hg;have hb:dq w4 w1.heap.size (List.replicate T.length Sp.zero):=(by unfold dq;rw[uC];have:=gu hown;have e:(madeCells #[Value.int .i64 0,.int .i64 0,.int .i64 0,.int .i64 0] (T.length*4)).toList=List.replicate (T.length*4) (.int .i64 0):=qP _ _;exact Ji);have t4:aa [] w1 w4:=aa.of_below ((Below.refl w1.heap.size w1).grown hg (Nat.le_refl _) (λj hj=>by cases hj));have hs4:=hb.lt;have H4:=qh (And.intro hb (And.intro t4 hs4));clear hown hg hb t4 hs4;go_upto_region 5 with fail;obtain⟨q,hq⟩:∃x,x=w1.heap.size:=⟨_,rfl⟩;rw[<-hq]at H4 ⊢;have HQ:=qh hq;clear hq;obtain⟨l,hl⟩:∃x,x=w4.heap.size:=⟨_,rfl⟩;generalize hw5:w4.alloc (.cells _ _)=w5;replace hw5:=hw5.symm;rw[<-hl];have HB5:=qh (show Blk w5 l _ #[.pointer (some ⟨a,0,none⟩),↑b,.pointer none,.pointer none,.int .i64 0,.pointer none,.slice (some ⟨q,0,none⟩) T.length T.length]from by rw[hw5,hl];exact Blk.new _ _ _);have H5:=qh (show aa [] w1 w5 from by rw[hw5];exact H4.o.2.1.alloc _);have HSQ:=qh (show dq w5 q (List.replicate T.length Sp.zero)from by rw[hw5];exact H4.o.1.turns (T:=[]) ((aa.refl _ _).alloc _) QY)
    have HO:=qh (show a<w.heap.size/\g<w.heap.size/\a≠g/\w.heap.size+2<=b/\b<w1.heap.size/\w1.heap.size=q/\q<l/\w5.heap.size=l+1 from by
      have e1:b<w1.heap.size:=K1.o.1.low.2;have e2:=K1.o.2.2.2.2;have e3:=H4.o.2.2;have e4:=H.o;have e5:=HQ.o;rw[hw5,hl];simp
      omega)
    have HPC:Kq (∀W,aa [l,b,a] w5 W->(W.cell? ⟨w.heap.size+1,0,none⟩=some (.int .i64 (kg:Int))/\W.cell? ⟨w.heap.size+1,1,none⟩=some (.int .i64 (kl:Int))/\W.cell? ⟨w.heap.size+1,2,none⟩=some (.int .i64 par)/\W.cell? ⟨w.heap.size+1,3,none⟩=some (.int .i64 bud))/\(W.cell? w.heap.size=some vP/\W.cell? ⟨w.heap.size,1,none⟩=some vT)/\RdL W vP 1 encI P/\RdL W vT 1 encI T):=qh λW hW=>by
      have o:=HO.o;have t:aa [l,b,a] w1 W:=(H5.o.mono QY).trans hW;have n:w.heap.size+1∉[l,b,a]:=(by simp;omega);have n2:w.heap.size∉[l,b,a]:=(by simp;omega);have b1:=t.blk K1.o.2.2.1 n;have b2:=t.blk K1.o.2.2.2.1 n2;refine⟨⟨b1.cell 0,b1.cell 1,b1.cell 2,b1.cell 3⟩,⟨b2.cell 0,b2.cell 1⟩,?_,?_⟩;· exact(HRD.o.1.1.below K1.o.2.1 (Nat.le_refl _)).turns t λi hi hm=>by have:=HRD.o.1.2 i hi;simp at hm;omega
      · exact(HRD.o.2.1.below K1.o.2.1 (Nat.le_refl _)).turns t λi hi hm=>by have:=HRD.o.2.2 i hi;simp at hm;omega
    obtain⟨N,hN⟩:∃N,N=(ab P).length:=⟨_,rfl⟩;rw[<-hN]at hN32 hN1;have HNo0:=pK (λi=>w.heap.size+2<=i/\i<w1.heap.size) w5 b P T HCK.o (K1.o.1.turns H5.o QY);rw[<-hN]at HNo0;have HNo:=qh HNo0;have HNN:=qh hN;have HA5:=qh ((H.o.1.turns (aa.of_below (S:=[]) K1.o.2.1) QY QY).turns H5.o QY QY);clear hw5 hl hN HNo0 H4;go_wp2_with fail;refine HNo.o.mono ?_;rintro en w6 ⟨rfl,t6,n6⟩;have Q6:=qh (And.intro t6.lt n6);have HA6:=qh (HA5.o.turns n6 Ra Ra);clear t6 n6;go_wp2_with fail;refine(Ab HA6.o N hN1 hN32 HS.o.1 HS.o.2.1).mono ?_;rintro en w7 ⟨gg,rfl,hgg,hgb,hga,t7⟩;have hnl:l∉[a]:=(by have:=HO.o;simp;omega);have bl7:Blk w7 l _ _:=t7.blk (Q6.o.2.blk HB5.o Ra) hnl;have c72:w7.cell? ⟨l,2,none⟩=some (.pointer none):=bl7.cell 2;have z72:=bl7.free 2;have H7:=qh (And.intro hgg (And.intro hgb (And.intro hga t7)));have HB7:=qh bl7;clear hgg hgb hga t7 bl7;go_upto_region 6 with fail;obtain⟨w8,hw8⟩:∃W,W=w7.setCell ⟨l,2,none⟩ ↑gg:=⟨_,rfl⟩;rw[<-hw8];have hl7:l<w7.heap.size:=HB7.o.lt;have hgg6:l<gg:=(by have e1:=Q6.o.2.size;have e2:=H7.o.1;have e3:=HO.o;omega);have t78:aa [l] w7 w8:=(by rw[hw8];exact(aa.refl _ _).setCell (.inl QY) _);have HB8:=qh (show Blk w8 l _ #[.pointer (some ⟨a,0,none⟩),↑b,↑gg,.pointer none,.int .i64 0,.pointer none,.slice (some ⟨q,0,none⟩) T.length T.length]from by rw[hw8];exact HB7.o.set_ 2 _);have HA8:=qh (H7.o.2.2.1.turns t78 Ra Ra);have HG8:=qh (t78.blk H7.o.2.1 Q1);have HT8:=qh (show aa [l,b,a] w5 w8 from((Q6.o.2.mono QY).trans (H7.o.2.2.2.mono QY)).trans (t78.mono QY));have hlen8:(bi s (2*N)).W.length=2*N:=(by unfold bi;rw[HS.o.1];simp);have hl8:l<w8.heap.size:=HB8.o.lt;have H78:=qh t78;clear hw8 c72 z72 t78;have HTk0:=mq HA8.o 1 (by rw[hlen8];show 2*N+1<=s.room;rw[HS.o.2.1];omega);rw[hlen8]at HTk0;have HTk:=qh HTk0;clear HTk0;go_wp2_with fail;refine HTk.o.mono ?_;rintro en w9 ⟨rfl,k9,t9⟩;have bl9:Blk w9 l _ _:=t9.blk HB8.o hnl;have c94:w9.cell? ⟨l,4,none⟩=some (.int .i64 0):=bl9.cell 4;have z94:=bl9.free 4;have H9:=qh (And.intro k9 (And.intro t9 bl9));clear k9 t9 bl9;go_upto_region 9 with fail;obtain⟨fl,hfl⟩:∃f:Int,f=2*(N:Int)+1:=⟨_,rfl⟩;have hfl2:((2*N:Nat):Int)+1=fl:=(by omega);obtain⟨w10,hw10⟩:∃W,W=w9.setCell ⟨l,4,none⟩ (.int .i64 fl):=⟨_,rfl⟩;rw[<-hfl,<-hw10];have t910:aa [l] w9 w10:=(by rw[hw10];exact(aa.refl _ _).setCell (.inl QY) _);have HB10:=qh (show Blk w10 l _ #[.pointer (some ⟨a,0,none⟩),↑b,↑gg,.pointer none,.int .i64 fl,.pointer none,.slice (some ⟨q,0,none⟩) T.length T.length]from by rw[hw10];exact H9.o.2.2.set_ 4 _);have HT10:=qh (show aa [l,a] w8 w10 from(H9.o.2.1.mono QY).trans (t910.mono QY));have HA10:=qh (H9.o.1.turns t910 Ra Ra);have HPC10:=qh (HPC.o w10 (HT8.o.trans (HT10.o.mono QY)));have hlen1:(bi (bi s (2*N)) 1).W.length=2*N+1:=by show((bi s (2*N)).W++_).length=_;rw[List.length_append,hlen8];simp
    have HCo:=qh (nt HA10.o vP vT P T HPC10.o.2.2.1 HPC10.o.2.2.2 HCK.o kg kl HPD.o.1 HPD.o.2.1 par HPD.o.2.2.1 bud (by have:=HPD.o.2.2.2;omega) (by
      show _<=s.room
      rw[hlen1,HS.o.2.1];omega) (by rw[hlen1];omega) (by show s.ops+100<=_;have:=HS.o.2.2;omega))
    obtain⟨⟨p0,p1,p2,p3⟩,⟨y0,y1⟩,_⟩:=HPC10.o;have HF:=qh hfl;clear hw10 c94 z94 t910 hfl hfl2 HTk;go_wp2_with fail;refine HCo.o.mono ?_;rintro en w11 ⟨xc,BC,rfl,k11,m11,t11⟩;have hnl2:l∉[a,g]:=(by have:=HO.o;simp;omega);have bl11:Blk w11 l _ _:=t11.blk HB10.o hnl2;have c115:w11.cell? ⟨l,5,none⟩=some (.pointer none):=bl11.cell 5;have z115:=bl11.free 5;have H11:=qh (And.intro k11 (And.intro m11 (And.intro t11 bl11)));clear k11 m11 t11 bl11 p0 p1 p2 p3 y0 y1 HCo;go_upto_region 12 with fail;obtain⟨w12,hw12⟩:∃W,W=w11.setCell ⟨l,5,none⟩ ↑xc.l:=⟨_,rfl⟩;rw[<-hw12];have t1112:aa [l] w11 w12:=(by rw[hw12];exact(aa.refl _ _).setCell (.inl QY) _);have HB12:=qh (show Blk w12 l _ #[.pointer (some ⟨a,0,none⟩),↑b,↑gg,.pointer none,.int .i64 fl,↑xc.l,.slice (some ⟨q,0,none⟩) T.length T.length]from by rw[hw12];exact H11.o.2.2.2.set_ 5 _);have HT12:=qh (show aa [l,a,g] w8 w12 from((HT10.o.mono QY).trans (H11.o.2.2.1.mono QY)).trans (t1112.mono QY));have hcol:¬eK xc BC l:=λhb=>by have e1:=H11.o.2.1 l hb;have e2:=HB10.o.lt;omega
    have HC12:=qh (H11.o.1.arAway t1112 (s':=(bz kg kl par P T (bi (bi s (2*N)) 1)).s) (H11.o.1.ar.turns t1112 Ra Ra) (λi hi=> .inr (.inr (by simp at hi;rw[hi];exact hcol))));have HS12:=qh (show w11.heap.size<=w12.heap.size from t1112.size);have g2:w12.cell? ⟨l,2,none⟩=some ↑gg:=HB12.o.cell 2;have hl12:l<w12.heap.size:=HB12.o.lt;clear hw12 c115 z115 t1112;go_wp2_with fail;refine(Ep w12 gg).mono ?_;rintro en w13 ⟨dd,rfl,b13,bd13,hdd⟩;have bl13:Blk w13 l _ _:=HB12.o.below b13 hl12;have c133:w13.cell? ⟨l,3,none⟩=some (.pointer none):=bl13.cell 3;have z133:=bl13.free 3;have H13:=qh (And.intro b13 (And.intro bl13 (And.intro bd13 hdd)));clear b13 bl13 bd13 hdd g2;go_wp2;go_ret2;have o:=HO.o;obtain⟨w14,hw14⟩:∃W,W=w13.setCell ⟨l,3,none⟩ ↑dd:=⟨_,rfl⟩;rw[<-hw14];have t1214:aa [l] w12 w14:=(by rw[hw14];exact(aa.of_below H13.o.1).trans ((aa.refl _ _).setCell (.inl QY) _));have HB14:=(show Blk w14 l _ #[.pointer (some ⟨a,0,none⟩),↑b,↑gg,↑dd,.int .i64 fl,↑xc.l,.slice (some ⟨q,0,none⟩) T.length T.length]from by rw[hw14];exact H13.o.2.1.set_ 3 _);have t814:aa [l,a,g] w8 w14:=HT12.o.trans (t1214.mono QY)
    have t614:aa [l,a,g] w6 w14:=((H7.o.2.2.2.mono QY).trans (show aa [l,a,g] w7 w8 from by
      refine aa.mono ?_ (S:=[l]) QY
      exact H78.o)).trans t814
    have hdd:=H13.o.2.2.2;have s1011:=H11.o.2.2.1.size;have s1112:=HS12.o;have s8':=HT8.o.size;have s10':=HT10.o.size;have s67:=H7.o.2.2.2.size;have s78:=H78.o.size;have g7:=H7.o.2.1.lt;have s56:=Q6.o.2.size;have hggl:=H7.o.1;have tdd:aa [l] w13 w14:=(by rw[hw14];exact(aa.refl _ _).setCell (.inl QY) _);have bdd:=tdd.blk H13.o.2.2.1 Q1;have hco14:=HC12.o.arAway t1214 (s':=(bz kg kl par P T (bi (bi s (2*N)) 1)).s) (HC12.o.ar.turns t1214 Q1 Q1) (λi hi=> .inr (.inr (by simp at hi;rw[hi];exact hcol)));have hcb:∀i,eK xc BC i->w10.heap.size<=i/\i<w11.heap.size:=H11.o.2.1
    have hcs:∀i∈CoS a g xc,i=a\/i=g\/(w10.heap.size<=i/\i<w11.heap.size):=λi hi=>by
      unfold CoS at hi;simp only[List.mem_cons]at hi;rcases hi with rfl|rfl|rfl|rfl|hi
      · exact .inl rfl
      · exact .inr (.inl rfl)
      · exact .inr (.inr (hcb _ (.inr (.inr (.inl rfl)))))
      · exact .inr (.inr (hcb _ (.inr (.inr (.inr (.inl (.inr (.inr rfl))))))))
      · obtain⟨y,hy,rfl⟩:=List.mem_map.1 hi;exact .inr (.inr (hcb _ (.inr (.inr (.inr (.inr (.inl ⟨y,hy,.inr (.inr rfl)⟩)))))))
    have hnb:∀q,¬(w10.heap.size<=q/\q<w11.heap.size)->¬eK xc BC q:=λq hq hb=>hq (hcb q hb);have nBq:¬(((w.heap.size+2<=q/\q<w1.heap.size)\/w5.heap.size<=q)/\q<w6.heap.size):=(by omega);have nBd:¬(((w.heap.size+2<=dd/\dd<w1.heap.size)\/w5.heap.size<=dd)/\dd<w6.heap.size):=(by omega);have s1214:=t1214.size;have s614:=t614.size;have s814:=t814.size;have l14:=HB14.lt;refine⟨λi=>((w.heap.size+2<=i/\i<w1.heap.size)\/w5.heap.size<=i)/\i<w6.heap.size,BC,⟨l,q,b,gg,dd,xc⟩,rfl,?_,λi hi=>?_,?_,λi hi=>⟨by show ¬(_/\_);omega,hnb i QX,by show i≠l;omega,by show i≠gg;omega⟩⟩
    · refine⟨?_,⟨?_,?_,bdd,by show(ab P).length<=32;rw[<-HNN.o];exact hN32,⟨by show dd≠a;omega,by show dd≠g;omega,by show dd≠gg;omega⟩,⟨by show gg≠a;omega,by show gg≠g;omega⟩⟩,?_,?_,?_,by simp,λi hi=>?_,⟨hnb q QX,hnb dd QX⟩,⟨by show q≠l;omega,by show q≠gg;omega,by show q≠dd;omega,nBq⟩,⟨by show dd≠l;omega,by show dd≠gg;omega,nBd⟩⟩;· show Blk w14 l _ (smC a ⟨l,q,b,gg,dd,xc⟩ (ab P).length T.length);rw[<-HNN.o];unfold smC;show Blk w14 l _ #[.pointer (some ⟨a,0,none⟩),↑b,↑gg,↑dd,.int .i64 (2*(N:Int)+1),↑xc.l,.slice (some ⟨q,0,none⟩) T.length T.length];have FL:fl=2*(N:Int)+1:=HF.o;rw[<-FL];exact HB14
      · rw[<-HNN.o];exact hco14.ar
      · rw[<-HNN.o];exact t814.blk HG8.o Q1
      · exact Q6.o.1.turns t614 λi hi hB=>by simp at hi;omega
      · exact⟨[],by rw[List.append_nil];exact(show Blk w14 q _ _ from(HSQ.o.turns (HT8.o) Q1).turns t814 Q1)⟩
      · rw[<-HNN.o];exact hco14
      · have hq:=hcs i hi;refine⟨?_,?_,?_,?_,?_⟩;· show i≠l;omega
        · show i≠q;omega
        · show i≠gg;omega
        · show i≠dd;omega
        · show ¬(_/\_);omega
    · unfold SmS at hi;simp only[List.mem_cons]at hi;rcases hi with hi|hi|hi
      · right;right;rw[hi];show w.heap.size<=q;omega
      · right;right;rw[hi];show w.heap.size<=dd;omega
      · have hq:=hcs i hi;omega
    · have t05:aa [a,g,l,b] w w5:=(aa.of_below (S:=[a,g,l,b]) K1.o.2.1).trans (H5.o.mono QY);have t014:aa [a,g,l,b] w w14:=(t05.trans (HT8.o.mono (by intro i hi;simp at hi ⊢;omega))).trans (t814.mono (by intro i hi;simp at hi ⊢;omega));exact t014.fresh λi hi=>by simp at hi ⊢;omega
end
section
open Go.RowKit
theorem av.foreign{ty:TypeId}{B BC:Nat->Prop}{w:World}{a g q:Nat}{X:SmX}{c:CoC}{P T:List Int}{st:Co}{d:Dr}{U:List Sp}(h:av ty B BC w a g X c P T st d U)(h1:¬B q/\¬eK X.x BC q/\q≠X.l/\q≠X.gg)(h2:q∉SmS a g X)(i:Nat)(u:Value):av ty B BC (w.setCell ⟨q,i,none⟩ u) a g X c P T st d U:=by unfold SmS CoS at h2;simp only[List.mem_cons,not_or]at h2;have t:aa [q] w (w.setCell ⟨q,i,none⟩ u):=aU _ _ _;have hA:=h.gd.ar.turns t (by simp;exact λe=>h2.2.2.1 e.symm) (by simp;exact λe=>h2.2.2.2.1 e.symm);have k:=h.co.arAway t (s':=st.s) hA (λj hj=> .inr (.inr (by simp at hj;rw[hj];exact h1.2.1)));exact {h with lk:=t.blk h.lk (by simp;exact λe=>h1.2.2.1 e.symm),gd:={h.gd with ar:=hA,ga:=t.blk h.gd.ga (by simp;exact λe=>h1.2.2.2 e.symm),dr:=t.blk h.gd.dr (by simp;exact λe=>h2.2.1 e.symm)},tb:=h.tb.turns t (λj hj=>by simp at hj;rw[hj];exact h1.1),sp:=h.sp.turns t (by simp;exact λe=>h2.1 e.symm),co:=k}
inductive MdR:Int->FuncId->TypeId->TypeId->Prop
 |n:MdR 1 148 330 274
 |r:MdR 2 149 335 277
 |w:MdR 3 150 337 280
theorem MdR.k{md:Int}{f:FuncId}{ty pt:TypeId}(h:MdR md f ty pt):MdN f ty:=by cases h<;>constructor
def Fw (ty pt:TypeId)(md:Int)(w:World)(a g:Nat)(s:Ar)(kg kl par:Nat)(bud:Int)(P T:List Int)(e:Ending)(w':World):Prop:=
 ∃(q:Nat) (B BC:Nat->Prop) (X:SmX),e= .returned (.tuple #[↑q,.int .i64 0])/\av ty B BC w' a g X (eV kg kl par bud P T (smA s (ab P).length)) P T (bz kg kl par P T (smA s (ab P).length)) dr0 (List.replicate T.length Sp.zero)/\(∀i∈SmS a g X,i=a\/i=g\/w.heap.size<=i)/\aa [a,g] w w'/\
  Blk w' q 273 #[.int .i64 md,.iface pt ↑X.l]/\w.heap.size<=q/\q∉SmS a g X/\∀i,i<w.heap.size\/w'.heap.size<=i->¬B i/\¬eK X.x BC i/\i≠X.l/\i≠X.gg
theorem E9 {md:Int} {f:FuncId} {ty pt:TypeId} (K:MdR md f ty pt) {w:World} {a g:Nat} {s:Ar} (h:aA w a g s) (hs:s.W=[]) (hag:a≠g) (vP vT:Value) (P T:List Int) (hP:RdL w vP 1 encI P) (hT:RdL w vT 1 encI T) (hPa:∀i,vP.ownBlock=some i->i≠a/\i<w.heap.size) (hTa:∀i,vT.ownBlock=some i->i≠a/\i<w.heap.size) (hc:a5 P T=0) (kg kl:Nat) (hG:KOk kg) (hL:KOk kl) (par:Nat) (hp:1<=par/\par<=4) (bud:Int) (hb:0<=bud/\bud<=3) (hr:s.room=4096) (ho:s.ops<=1000):
    Calls Tryz.prog 108 #[↑a,.int .i64 md,.agg #[vP,vT],.agg #[.int .i64 (kg:Int),.int .i64 (kl:Int),.int .i64 par,.int .i64 bud]] w (Fw ty pt md w a g s kg kl par bud P T):=by
  have ha0:=h.blk.lt;have hg0:=h.wds.lt;obtain⟨wz,hwz⟩:∃W,W=((w.alloc (.cells #[vP,vT] 24)).alloc (.cells #[.int .i64 (kg:Int),.int .i64 (kl:Int),.int .i64 par,.int .i64 bud] 36)).alloc (.cells #[.int .i64 md,.nilIface] 273):=⟨_,rfl⟩;have hsz:wz.heap.size=w.heap.size+3:=by rw[hwz];simp
  have HB:=qh (show Below w.heap.size w wz from by rw[hwz];exact(((Below.refl w.heap.size w).alloc (Nat.le_refl _) _).alloc QY _).alloc Q1 _);have hbt:Blk wz w.heap.size 24 #[vP,vT]:=by rw[hwz];exact((Blk.new w 24 #[vP,vT]).alloc _).alloc _
  have hbp:Blk wz (w.heap.size+1) 36 #[.int .i64 (kg:Int),.int .i64 (kl:Int),.int .i64 par,.int .i64 bud]:=by have h1:=Blk.new (w.alloc (.cells #[vP,vT] 24)) 36 #[.int .i64 (kg:Int),.int .i64 (kl:Int),.int .i64 par,.int .i64 bud];rw[show(w.alloc (.cells #[vP,vT] 24)).heap.size=w.heap.size+1 by simp]at h1;rw[hwz];exact h1.alloc _
  have hbl:Blk wz (w.heap.size+2) 273 #[.int .i64 md,.nilIface]:=by have h1:=Blk.new ((w.alloc (.cells #[vP,vT] 24)).alloc (.cells #[.int .i64 (kg:Int),.int .i64 (kl:Int),.int .i64 par,.int .i64 bud] 36)) 273 #[.int .i64 md,.nilIface];rw[show((w.alloc (.cells #[vP,vT] 24)).alloc (.cells #[.int .i64 (kg:Int),.int .i64 (kl:Int),.int .i64 par,.int .i64 bud] 36)).heap.size=w.heap.size+2 by simp]at h1;rw[hwz];exact h1
  have HN:=qh (Gt K.k (h.turns (S:=[]) (aa.of_below HB.o) QY QY) hs hag vP vT P T (hP.below HB.o (Nat.le_refl _)) (hT.below HB.o (Nat.le_refl _)) (λi hi=>⟨(hPa i hi).1,by have:=(hPa i hi).2;omega⟩) (λi hi=>⟨(hTa i hi).1,by have:=(hTa i hi).2;omega⟩) hc kg kl hG hL par hp bud hb hr ho);have HX:=qh (And.intro hbt (And.intro hbp hbl));have HS:=qh (And.intro ha0 hg0);clear h hs hag hP hT hPa hTa hc hG hL hp hb hr ho hbt hbp hbl;obtain⟨V0,hV0⟩:∃V0:Nat->Value,∀x,V0 x= .iface pt (.pointer (some ⟨x,0,none⟩)):=⟨_,λ_=>rfl⟩;cases K
  all_goals
    go_enter Tryz.func108,Tryz.ntmps108;go_upto_region 2 with fail;rw[<-hwz];clear hwz;have f0:wz.cell? w.heap.size=some vP:=HX.o.1.cell 0;have f1:wz.cell? ⟨w.heap.size,1,none⟩=some vT:=HX.o.1.cell 1;have p0:wz.cell? ⟨w.heap.size+1,0,none⟩=some (.int .i64 (kg:Int)):=HX.o.2.1.cell 0;have p1:wz.cell? ⟨w.heap.size+1,1,none⟩=some (.int .i64 (kl:Int)):=HX.o.2.1.cell 1;have p2:wz.cell? ⟨w.heap.size+1,2,none⟩=some (.int .i64 par):=HX.o.2.1.cell 2;have p3:wz.cell? ⟨w.heap.size+1,3,none⟩=some (.int .i64 bud):=HX.o.2.1.cell 3;go_wp2_with fail;refine HN.o.mono ?_;rintro en w3 ⟨B,BC,X,rfl,k3,hS,t3,n3⟩;have hb3:Blk w3 (w.heap.size+2) 273 #[_,.nilIface]:=t3.blk HX.o.2.2 (by have:=HS.o;simp;omega);have qn:w.heap.size+2∉SmS a g X:=λhm=>by have:=hS _ hm;have:=HS.o;omega
    have z1:=hb3.free 1;have e1:=hb3.cell 1;have HK:=qh (And.intro (k3.foreign (n3 (w.heap.size+2) QX) qn 1 (V0 X.l)) (And.intro hS (And.intro (hb3.set_ 1 (V0 X.l)) (And.intro qn n3))));rw[hV0]at HK;have HT:=qh t3;clear k3 hS t3 n3 hb3 qn HN f0 f1 p0 p1 p2 p3;go_wp2;go_ret2;refine⟨w.heap.size+2,B,BC,X,rfl,HK.o.1,λi hi=>?_,?_,HK.o.2.2.1,by omega,HK.o.2.2.2.1,λi hi=>HK.o.2.2.2.2 i (hi.elim (λz=> .inl QX) λz=> .inr (by simpa using z))⟩;· have:=HK.o.2.1 i hi;omega
    · rw[<-hV0 X.l];have t9:aa [a,g,w.heap.size+2] w (w3.setCell ⟨w.heap.size+2,1,none⟩ (V0 X.l)):=((aa.of_below HB.o).trans (HT.o.mono QY)).setCell (.inl QY) _;exact t9.fresh λi hi=>by simp at hi ⊢;omega
end
section
open Go Go.RowKit
section
variable{w w':World}{a g:Nat}{bud:Int}{P T:List Int}{s:Ar}
theorem F3{k n m:Nat}(hk:1<=k/\k<=5)(hn:1<=n/\n<=32)(hm:1<=m/\m<=4)(hW:s.W=[])(hs:s.ops=0){x:Fx}(h:di w' a g k x (aD k s n m) (a7 k n))(h1:w.heap.size<=x.p/\w.heap.size<=x.l/\w.heap.size<=x.q/\x.n=n/\x.m=m/\x.t=s.W.length+1):pY w a g n k (flV x.p) ⟨EG k n m,(aD k s n m,a7 k n)⟩ w':=by
 intro w2 lb t hlb ha hg hb;obtain⟨l1,l2,l3,e1,e2,e3⟩:=h1;have k2:=h.oth t (h.ki.ar.turns t (by simp;exact λe=>ha e.symm) (by simp;exact λe=>hg e.symm)) Q1 Q1 Q1;have b1:=k2.p.lt;have b2:=k2.ki.lk.lt;have b3:=k2.ki.sp.lt;have b4:=k2.ki.ar.blk.lt;have b5:=k2.ki.ar.wds.lt;have hfp:∀y∈[a,g,x.q],w.heap.size<=y\/y=a\/y=g:=λy hy=>by simp at hy;omega
 have hz:WdB 40 s:=by intro v hv;rw[hW]at hv;cases hv
 have hi:=nH hk s (n:=n) (m:=m) hm.1;rw[hW]at hi;refine⟨⟨x,w2.heap.size,a,g⟩,xL hk hn hm,⟨hi,(mW (B:=40) hz QX hn.2).mono Rn,λp hp=>⟨uK hn.2 Rn p hp,E4 k (iK k n p hp).1⟩,?_⟩,⟨k2,⟨rfl,rfl,e1,e2,by rw[e3,hW];rfl⟩,⟨hb,λz=>by simp at z;omega,hb.lt,λy hy=>by simp at hy;show y<w2.heap.size;omega,Nat.le_refl _⟩,b1,b2⟩,hfp⟩;have:=j3 k s n m;show(aD k s n m).ops<=0+1;omega
theorem yI{x:Cox}(B:Nat->Prop){i:Nat}(hi:i∈CoS a g x):i=a\/i=g\/eK x B i:=by
 unfold CoS at hi;simp only[List.mem_cons]at hi;rcases hi with rfl|rfl|rfl|rfl|hi
 ·exact .inl rfl
 ·exact .inr (.inl rfl)
 ·exact .inr (.inr (.inr (.inr (.inl rfl))))
 ·exact .inr (.inr (.inr (.inr (.inr (.inl (.inr (.inr rfl)))))))
 ·obtain⟨y,hy,rfl⟩:=List.mem_map.1 hi;exact .inr (.inr (.inr (.inr (.inr (.inr (.inl ⟨y,hy,.inr (.inr rfl)⟩))))))
theorem F2{kg kl par:Nat}(hc:a5 P T=0)(hkg:1<=kg/\kg<=5)(hkl:1<=kl/\kl<=5)(hp:1<=par/\par<=4)(hW:s.W=[])(hs:s.ops=0){x:Cox}{B:Nat->Prop}(h:aB B w' a g x (eV kg kl par bud P T s) P T (bz kg kl par P T s))(hb:∀i,eK x B i->w.heap.size<=i/\i<w'.heap.size):pY w a g T.length 6 (zm x.l) ⟨EF (eV kg kl par bud P T s) P T (bz kg kl par P T s).s.W.length,bz kg kl par P T s⟩ w':=by
 intro w2 lb t hlb ha hg hbl;have ht:=t.size;have k2:=h.farK t (by simp;exact λe=>ha e.symm) (by simp;exact λe=>hg e.symm) (λi hi hB=>by have:=hb i hB;simp at hi;omega);have b4:=k2.ar.blk.lt;have b5:=k2.ar.wds.lt
 have hfp:∀y∈CoS a g x,(w.heap.size<=y\/y=a\/y=g)/\y<w2.heap.size:=λy hy=>by
  rcases yI B hy with e|e|e
  ·omega
  ·omega
  ·have:=hb y e;omega
 have hz:WdB 40 s:=by intro v hv;rw[hW]at hv;cases hv
 have ok:=nY (kg:=kg) (kl:=kl) (par:=par) (bud:=bud) hc hz;rw[hs]at ok;refine⟨⟨x,B,a,g,w2.heap.size⟩,xK hc (ui (bud:=bud) hc hkg hkl hp) (uu hc hkg hkl hp),⟨vO hc hkg hkl hp hz,ok.mono QY,λi e=>?_⟩,⟨k2,⟨rfl,rfl⟩,⟨hbl,λz=>by have:=hfp _ z;omega,hbl.lt,λy hy=>(hfp y hy).2,Nat.le_refl _⟩,λi hi=>by have:=hb i hi;show i<w2.heap.size;omega⟩,λy hy=>(hfp y hy).1⟩;exfalso;have e0:sv (List.replicate T.length Sp.zero) i=Sp.zero:=qY _ i;have e1:(sv (List.replicate T.length Sp.zero) i).pc=10:=e;rw[e0]at e1;exact absurd e1 QZ
theorem DH (hc:a5 P T=0)(hb0:0<=bud/\bud<=1000){x:Hx}{B:Nat->Prop}{s':Ar}(hs:s'.ops=0)(ha0:x.a=a)(hg0:x.g=g)(h:aP B w' x (cf P T) bud s' (hm0 (cf P T)))(hB:∀i,B i->w.heap.size<=i)(hq:w.heap.size<=x.q)(hqb:∀v,v<P.length->w.heap.size<=x.qb v):pY w a g T.length 7 (hmV x.l) ⟨CR (cf P T) bud,⟨s',hm0 (cf P T)⟩⟩ w':=by
 intro w2 lb t hlb ha hg hbl;have ht:=t.size;have hn:1<=T.length/\T.length<=32:=by have:=bh (aR hc).1;exact⟨this.2.2.1,this.2.2.2⟩
 have hm:∀y∈mvL x (cf P T),w.heap.size<=y\/y=a\/y=g:=λy hy=>by
  unfold mvL at hy;simp only[List.mem_append,List.mem_cons,List.not_mem_nil,or_false,List.mem_map,List.mem_range]at hy;rcases hy with(rfl|rfl|rfl)|⟨v,hv,rfl⟩
  ·exact .inr (.inl ha0)
  ·exact .inr (.inr hg0)
  ·exact .inl hq
  ·exact .inl (hqb v hv)
 have k2:=h.turns t (λi hi hBi=>by have:=hB i hBi;simp at hi;omega) (λi hi hmi=>by have:=hm i hmi;simp at hi;omega);have b4:=k2.ar.blk.lt;have b5:=k2.ar.wds.lt
 have hlt:∀y∈mvL x (cf P T),y<w2.heap.size:=λy hy=>by
  unfold mvL at hy;simp only[List.mem_append,List.mem_cons,List.not_mem_nil,or_false,List.mem_map,List.mem_range]at hy;rcases hy with(rfl|rfl|rfl)|⟨v,hv,rfl⟩
  ·exact b4
  ·exact b5
  ·exact k2.ss.lt
  ·exact(k2.rs v hv).lt
 exact⟨⟨x,B,w2.heap.size⟩,xN (jN hc) hn hb0,⟨⟨_,dY.start _ _⟩,by show s'.ops<=0;omega⟩,⟨k2,⟨ha0,hg0⟩,⟨hbl,λz=>by have:=hm _ z;omega,hbl.lt,hlt,Nat.le_refl _⟩,λi hi=>k2.bd i hi⟩,hm⟩
theorem Ak{F:mr}{c:CoC}{L:Nat}{st:Co}(hm:1<=F.md/\F.md<=3)(hc:a5 P T=0)(hF:F.Ok c P T L)(hok:F.ok c T.length (ab P).length L (mtQ P T) 40 ⟨st,dr0,List.replicate T.length Sp.zero⟩)(hs:st.s.ops<=40){q:Nat}{B BC:Nat->Prop}{X:SmX}(h:av F.ty B BC w' a g X c P T st dr0 (List.replicate T.length Sp.zero))(hfp:∀i∈SmS a g X,i=a\/i=g\/w.heap.size<=i)(hq:Blk w' q 273 (rwC F X.l))(hqw:w.heap.size<=q)(hqn:q∉SmS a g X)(hb:∀i,i<w.heap.size\/w'.heap.size<=i->¬B i/\¬eK X.x BC i/\i≠X.l/\i≠X.gg):pY w a g T.length (10+F.md) (rwV q) ⟨EI F c P T L,⟨st,dr0,List.replicate T.length Sp.zero⟩⟩ w':=by
 intro w2 lb t hlb ha hg hbl;have ht:=t.size;have k2:=h.farR t (λi hi=>hb i (.inl (by simp at hi;omega))) (λi hi hm=>by have:=hfp i hm;simp at hi;omega);have q2:=t.blk hq Q1
 have hin:∀i,B i\/eK X.x BC i\/i=X.l\/i=X.gg->i<w2.heap.size:=λi hi=>by
  apply Classical.byContradiction;intro hn;have:=hb i (.inr QX);rcases hi with z|z|z|z
  ·exact this.1 z
  ·exact this.2.1 z
  ·exact this.2.2.1 z
  ·exact this.2.2.2 z
 have hlt:=k2.ltsA;exact⟨⟨B,BC,a,g,X,q,w2.heap.size⟩,xO hm hc hF,⟨by simpa using hok,by show st.s.ops<=0+1000;omega⟩,⟨k2,⟨rfl,rfl⟩,⟨hbl,λz=>by have:=hfp _ z;omega,hbl.lt,hlt,Nat.le_refl _⟩,⟨q2,q2.lt,hqn⟩,hin⟩,λy hy=>by have:=hfp y hy;omega⟩
end
end
end Go.Proofs.YtglokdbiggbkjaaGreat
