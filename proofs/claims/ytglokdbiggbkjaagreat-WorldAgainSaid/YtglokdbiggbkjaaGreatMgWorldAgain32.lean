/- Joined texts. -/
import Derived.BigRegion
import Derived.Deep.RegionHeld3
import Derived.Deep.DeepCutAuto
import Derived.Test.YtglokdbiggbkjaaGreatMgWorldAgain0
import Derived.Test.YtglokdbiggbkjaaGreatMgWorldAgain2
import Derived.Test.YtglokdbiggbkjaaGreatMgWorldAgain3
import Derived.Test.YtglokdbiggbkjaaGreatMgWorldAgain4
import Derived.Test.YtglokdbiggbkjaaGreatMgWorldAgain6
import Derived.Test.YtglokdbiggbkjaaGreatMgWorldAgain8
import Derived.Test.YtglokdbiggbkjaaGreatMgWorldAgain23
import Derived.Test.YtglokdbiggbkjaaGreatMgWorldAgain24
import Derived.Test.YtglokdbiggbkjaaGreatMgWorldAgain25
import Derived.Test.YtglokdbiggbkjaaGreatMgWorldAgain26
import Derived.Test.YtglokdbiggbkjaaGreatMgWorldAgain27
import Derived.Test.YtglokdbiggbkjaaGreatMgWorldAgain29
import Derived.Test.YtglokdbiggbkjaaGreatMgWorldAgain30
import Derived.Test.YtglokdbiggbkjaaGreatMgWorldAgain31
set_option linter.unusedVariables false
set_option linter.unusedSimpArgs false
set_option linter.defProp false
set_option maxRecDepth 100000
set_option maxHeartbeats 16000000
open Go.Proofs.Tryz
namespace Go.Proofs.YtglokdbiggbkjaaGreat
open Go.IntKind(i64)
open Go.Value(int bool slice agg tuple pointer)
open Go.Ending(returned)
open Go.Obj(cells)
variable{n N L o kg kl par a g k lb sz:Nat}{ml:Nat->Nat}{B bud:Int}{P T:List Int}{Q:Prop}{w w' W w0:World}{gs:Nat->Value}{vP vT:Value}{cs:Array Value}
section
open Go
section
variable{c:CoC}{x:Nu}
def lw{p:Sp}(h:¬(p.a=1/\(p.pc=2\/p.pc=10\/p.pc=11))):fo p=false:=decide_eq_false h
def Eo{p:Sp}(h:p.a=1/\(p.pc=2\/p.pc=10\/p.pc=11)):fo p=true:=decide_eq_true h
def RsI.ask(h:RsI c n N ml x)(y:cD c n N ml){i:Nat}(hi:i<n)(r:Bool):RsI c n N ml (cG c x i r):=by
 unfold cG;split
 .rename_i h0;have Y:=h.k i hi;have O:(sv x.st.T i).pc=0:=by unfold iO at Y;omega
  have I:fo (sv x.U i)=false:=lw ahp;split;.exact h.upd (p':=⟨1,1,0,0⟩) hi h.m (λ_ _=>rfl) (.inr (.inl ⟨rfl,.inl rfl,O⟩)) (dH h hi (by rw[I];rfl) (λ_ _=>rfl)) (λj H _ hw=>h.fl j H hw) (λhw=>by unfold gD at hw;simp at hw) (λ_ _=>Int.le_refl _) (λV=>by unfold dE at V;simp at V) (λ_ _ _ _ _=>rfl) (λe=>by simp at e) (λe=>by simp at e)
  .have hm:=h.m.ask y hi;have hs:=gx c x.st i;have hT:=(ii (c:=c) (j:=i) h.m.v hi).2 O;exact h.upd (p':=⟨7,0,0,0⟩) hi hm (λj H=>(ii (c:=c) h.m.v hi).1 H) (.inr (.inr (.inl ⟨rfl,rfl,by omega,by omega⟩))) (by rw[hs];exact dH h hi (by rw[I];rfl) (λ_ _=>rfl)) (λj H _ hw=>by rw[hs];exact h.fl j H hw) (λhw=>by unfold gD at hw;simp at hw) (λa _=>by rw[hs];exact Int.le_refl _) (λV=>by unfold dE at V;simp at V) (λ_ _ _ _ _=>rfl) (λ_ e=>by simp at e) (λ_ e=>by simp at e)
 .exact h
def RsI.leave(h:RsI c n N ml x){i:Nat}(hi:i<n):RsI c n N ml (aK x i):=by
 unfold aK;split
 .rename_i h10;have hk:=h.k i hi;obtain⟨p,hp⟩:=LE (sv x.U i);have O:=h.fl i hi;rw[<-hp]at hk h10 O ⊢;have Y:(p.a=1/\(sv x.st.T i).pc=0)\/(p.a=0/\(sv x.st.T i).pc=10):=by unfold iO at hk;omega
  obtain⟨pc,u,b,z⟩:=p;simp only at h10 Y;subst h10;rcases Y with⟨rfl,I⟩|⟨rfl,I⟩
  .exact h.upd (p':=⟨11,1,b,z⟩) hi h.m (λ_ _=>rfl) (.inr (.inl ⟨rfl,.inr (.inr (.inr rfl)),I⟩)) (dH h hi ahv (λ_ _=>rfl)) (λj H _ hw=>h.fl j H hw) (λhw=>by unfold gD at hw;simp at hw) (λ_ _=>Int.le_refl _) (λV=> .inl (by rw[<-hp];exact⟨rfl,.inl rfl⟩)) (λ_ _ _ _ _=>rfl) (λe=>by simp at e) (λe=>by simp at e)
  .exact h.upd (p':=⟨12,0,b,z⟩) hi h.m (λ_ _=>rfl) (.inr (.inr (.inr (.inl ⟨rfl,.inr (.inr (.inr (.inr (.inr rfl)))),I⟩)))) (dH h hi ahv (λ_ _=>rfl)) (λj H _ hw=>h.fl j H hw) (λ_=>O ⟨rfl,.inr (.inr (.inl rfl))⟩) (λ_ _=>Int.le_refl _) (λV=>by unfold dE at V;simp at V) (λ_ _ _ _ _=>rfl) (λ_ e=>by simp at e) (λ_ e=>by simp at e)
 .exact h
def kz{P:Prop}(q:Q)(h:Kq Q->P:=by
    intro q_
    have hn:=(y.nd i hi).1
    have J8:∀j,j<n->c.node j<N:=λj hj=>(y.nd j hj).1
    have hk:=h.k i hi
    have J1:=h.fl i hi
    have KE:=h.dr i hi
    have oth:(sv x.st.T i).pc=10->∀j,j<n->j≠i->¬gD (sv x.U j):=λht j hj e hw=>e (h.one y hj hi (Jm (h.k j hj) hw) ht)
    have KR:(sv x.st.T i).pc=10->∀j,j<n->j≠i->(sv x.U j).a=0->(sv x.U j).pc=9->False:=λht j hj e h0 h9=>oth ht j hj e ⟨h0,.inr (.inl h9)⟩
    have bA:=hB.w.ld ahp (gaA (c.node i))
    have bW:=hB.w.ld ahp (gaW (c.node i))
    refine ai3 ?_
    intro wA wW
    have lA:=re h y l (z:=gaA (c.node i)) ⟨(eM hn).1,by have:=(eM hn).2;omega⟩ (ldW x.st.s.W (gaA (c.node i))+1) (s':=addA x.st.s (gaA (c.node i)) 1) (by rw[dX,wA])
    have lW:=re h y l (z:=gaW (c.node i)) ⟨(bG hn).1,by have:=(bG hn).2;omega⟩ (ldW x.st.s.W (gaW (c.node i))+1) (s':=addA x.st.s (gaW (c.node i)) 1) (by rw[dX,wW])
    have lF:=λv=>re h y l (z:=nuFl N) ⟨by unfold nuFl;omega,Int.le_refl _⟩ v (s':=ae x.st.s (nuFl N) v) (ay _ _ _)
    refine aiP ?_
    intro fA fW HA
    have HW:∀a,a<N->ldW x.st.s.W (gaW a)<=ldW (addA x.st.s (gaW (c.node i)) 1).W (gaW a):=λa _=>by
      exact abU
    refine ai1 ?_
    intro HF SF mS lS JW tS aS
    unfold be
    rw[<-hp]
    rw[<-hp]at hk J1 KE
    rw[if_neg ahq]
    revert hn J8 hk J1 KE oth KR bA bW wA wW lA lW lF fA fW HA HW HF SF mS lS JW tS aS
    exact q_.o):P:=h ⟨q⟩
def RsI.s1(h:RsI c n N ml x)(y:cD c n N ml)(l:NuL c N x.st.s.W)(hB:CoB c B x.st)(H:40<=B)(I:B<=1000000000000){i:Nat}(hi:i<n)(b z:Int)(hp:(⟨1,1,b,z⟩:Sp)=sv x.U i)(ht:(sv x.st.T i).pc=0):RsI c n N ml (be c N x i):=by refine kz ?_;intro hn J8 hk J1 KE oth KR bA bW wA wW lA lW lF fA fW HA HW HF SF mS lS JW tS aS;show RsI c n N ml ⟨onA x.st (addA x.st.s (gaA (c.node i)) 1),x.d,x.U.set i ⟨2,1,b,z⟩⟩;exact h.upd (p':=⟨2,1,b,z⟩) hi lA.2 (λ_ _=>rfl) (.inr (.inl ⟨rfl,.inr (.inl rfl),ht⟩)) (Hk h J8 hi ahv rfl lA.1) (λj hj _ hw=>by rw[show ldW (onA x.st (addA x.st.s (gaA (c.node i)) 1)).s.W (nuFl N)=_ from fA];exact h.fl j hj hw) (λhw=>by unfold gD at hw;simp at hw) HA (λV=>by unfold dE at V;simp at V) (λ_ _ _ _ _=>rfl) (λe=>by simp at e) (λe=>by simp at e)
def RsI.s2(h:RsI c n N ml x)(y:cD c n N ml)(l:NuL c N x.st.s.W)(hB:CoB c B x.st)(I:40<=B)(O:B<=1000000000000){i:Nat}(hi:i<n)(b z:Int)(hp:(⟨2,1,b,z⟩:Sp)=sv x.U i)(ht:(sv x.st.T i).pc=0):RsI c n N ml (be c N x i):=by
 refine kz ?_;intro hn J8 hk J1 KE oth KR bA bW wA wW lA lW lF fA fW HA HW HF SF mS lS JW tS aS;have e:(af x.st.s (nuFl N)).W=x.st.s.W:=aP _ _;show RsI c n N ml ⟨onA x.st (af x.st.s (nuFl N)),x.d,x.U.set i ⟨if ldW x.st.s.W (nuFl N)=0 then 10 else 2,1,b,z⟩⟩;by_cases H:ldW x.st.s.W (nuFl N)=0;.rw[if_pos H];exact h.upd (p':=⟨10,1,b,z⟩) hi (nt h y e) (λ_ _=>rfl) (.inr (.inl ⟨rfl,.inr (.inr (.inl rfl)),ht⟩)) (dH h hi ahv (λq _=>by show ldW (af _ _).W q=_;rw[e])) (λj hj _ hw=>by show ldW (af _ _).W _≠0;rw[e];exact h.fl j hj hw) (λhw=>by unfold gD at hw;simp at hw) (λa _=>by show _<=ldW (af _ _).W _;rw[e];exact Int.le_refl _) (λ_=> .inr (λj hj _ hw=>h.fl j hj hw H)) (λ_ _ _ _ _=>rfl) (λe=>by simp at e) (λe=>by simp at e)
 .rw[if_neg H];exact h.upd (p':=⟨2,1,b,z⟩) hi (nt h y e) (λ_ _=>rfl) (.inr (.inl ⟨rfl,.inr (.inl rfl),ht⟩)) (dH h hi ahC (λq _=>by show ldW (af _ _).W q=_;rw[e])) (λj hj _ hw=>by show ldW (af _ _).W _≠0;rw[e];exact h.fl j hj hw) (λhw=>by unfold gD at hw;simp at hw) (λa _=>by show _<=ldW (af _ _).W _;rw[e];exact Int.le_refl _) (λV=>by unfold dE at V;simp at V) (λ_ _ _ _ _=>rfl) (λe=>by simp at e) (λe=>by simp at e)
def RsI.s11(h:RsI c n N ml x)(y:cD c n N ml)(l:NuL c N x.st.s.W)(hB:CoB c B x.st)(H:40<=B)(I:B<=1000000000000){i:Nat}(hi:i<n)(b z:Int)(hp:(⟨11,1,b,z⟩:Sp)=sv x.U i)(ht:(sv x.st.T i).pc=0):RsI c n N ml (be c N x i):=by refine kz ?_;intro hn J8 hk J1 KE oth KR bA bW wA wW lA lW lF fA fW HA HW HF SF mS lS JW tS aS;show RsI c n N ml ⟨onA x.st (addA x.st.s (gaW (c.node i)) 1),x.d,x.U.set i ⟨0,1,b,z⟩⟩;exact h.upd (p':=⟨0,1,b,z⟩) hi lW.2 (λ_ _=>rfl) (.inl ⟨rfl,ht⟩) (FN h J8 hi ahv rfl lW.1) (λj hj _ hw=>by rw[show ldW (onA x.st (addA x.st.s (gaW (c.node i)) 1)).s.W (nuFl N)=_ from fW];exact h.fl j hj hw) (λhw=>by unfold gD at hw;simp at hw) HW (λV=>by unfold dE at V;simp at V) (λ_ _ _ _ _=>rfl) (λe=>by simp at e) (λe=>by simp at e)
def RsI.s7(h:RsI c n N ml x)(y:cD c n N ml)(l:NuL c N x.st.s.W)(hB:CoB c B x.st)(I:40<=B)(O:B<=1000000000000){i:Nat}(hi:i<n)(b z:Int)(hp:(⟨7,0,b,z⟩:Sp)=sv x.U i)(ht:0<(sv x.st.T i).pc/\(sv x.st.T i).pc<10):RsI c n N ml (be c N x i):=by
 refine kz ?_;intro hn J8 hk J1 KE oth KR bA bW wA wW lA lW lF fA fW HA HW HF SF mS lS JW tS aS;have a1:=aS.1 ht;show RsI c n N ml ⟨am c x.st i,x.d,x.U.set i ⟨if bo (sv x.st.T i) (sv (am c x.st i).T i)then 8 else 7,0,b,z⟩⟩;rw[a1.2];by_cases H:(sv (am c x.st i).T i).pc=10;.rw[decide_eq_true H];exact h.upd (p':=⟨8,0,b,z⟩) hi mS tS (.inr (.inr (.inr (.inl ⟨rfl,.inr (.inr (.inl rfl)),by omega⟩)))) (dH h hi ahv (λq hq=>JW q ahp)) (λj hj _ hw=>by rw[JW _ (Int.le_refl _)];exact h.fl j hj hw) (λhw=>by unfold gD at hw;simp at hw) (λa ha=>by rw[JW _ ahx];exact Int.le_refl _) (λV=>by unfold dE at V;simp at V) (λ_ _ _ _ _=>rfl) (λ_ e=>by simp at e) (λ_ e=>by simp at e)
 .rw[decide_eq_false H];have Y:=a1.1;exact h.upd (p':=⟨7,0,b,z⟩) hi mS tS (.inr (.inr (.inl ⟨rfl,rfl,by omega,by omega⟩))) (dH h hi ahC (λq hq=>JW q ahp)) (λj hj _ hw=>by rw[JW _ (Int.le_refl _)];exact h.fl j hj hw) (λhw=>by unfold gD at hw;simp at hw) (λa ha=>by rw[JW _ ahx];exact Int.le_refl _) (λV=>by unfold dE at V;simp at V) (λ_ _ _ _ _=>rfl) (λ_ e=>by simp at e) (λ_ e=>by simp at e)
def RsI.s5(h:RsI c n N ml x)(y:cD c n N ml)(l:NuL c N x.st.s.W)(hB:CoB c B x.st)(H:40<=B)(I:B<=1000000000000){i:Nat}(hi:i<n)(b z:Int)(hp:(⟨5,0,b,z⟩:Sp)=sv x.U i)(ht:(sv x.st.T i).pc=10):RsI c n N ml (be c N x i):=by refine kz ?_;intro hn J8 hk J1 KE oth KR bA bW wA wW lA lW lF fA fW HA HW HF SF mS lS JW tS aS;show RsI c n N ml ⟨onA x.st (ae x.st.s (nuFl N) 0),dS x.d N false,x.U.set i ⟨6,0,b,z⟩⟩;exact h.upd (p':=⟨6,0,b,z⟩) hi (lF 0).2 (λ_ _=>rfl) (.inr (.inr (.inr (.inl ⟨rfl,.inr (.inl rfl),ht⟩)))) (dH h hi ahv (SF 0)) (λj hj e hw=>absurd hw (oth ht j hj e)) (λhw=>by unfold gD at hw;simp at hw) (HF 0) (λV=>by unfold dE at V;simp at V) (λj hj e h0 h9=>(KR ht j hj e h0 h9).elim) (λ_ e=>by simp at e) (λ_ e=>by simp at e)
def RsI.s6(h:RsI c n N ml x)(y:cD c n N ml)(l:NuL c N x.st.s.W)(hB:CoB c B x.st)(Y:40<=B)(Kj:B<=1000000000000){i:Nat}(hi:i<n)(b z:Int)(hp:(⟨6,0,b,z⟩:Sp)=sv x.U i)(ht:(sv x.st.T i).pc=10):RsI c n N ml (be c N x i):=by
 refine kz ?_;intro hn J8 hk J1 KE oth KR bA bW wA wW lA lW lF fA fW HA HW HF SF mS lS JW tS aS;have I:=gS x.st.s x.d;have go:∀(H:Int) (d':Dr),(H=6\/H=8)->RsI c n N ml ⟨onA x.st (aj x.st.s x.d).1,d',x.U.set i ⟨H,0,b,z⟩⟩:=λH d' O=>by refine h.upd (p':=⟨H,0,b,z⟩) hi (nt h y I) (λ_ _=>rfl) (by rcases O with rfl|rfl;exact .inr (.inr (.inr (.inl ⟨rfl,.inr (.inl rfl),ht⟩)));exact .inr (.inr (.inr (.inl ⟨rfl,.inr (.inr (.inl rfl)),ht⟩)))) (dH h hi ?_ (λq _=>by show ldW (aj _ _).1.W q=_;rw[I])) (λj hj _ hw=>by show ldW (aj _ _).1.W _≠0;rw[I];exact h.fl j hj hw) (λhw=>by unfold gD at hw;simp only at hw;omega) (λa _=>by show _<=ldW (aj _ _).1.W _;rw[I];exact Int.le_refl _) (λV=>by unfold dE at V;simp at V) (λj hj e h0 h9=>(KR ht j hj e h0 h9).elim) (λ_ e=>by simp only at e;omega) (λ_ e=>by simp only at e;omega);rw[<-hp,lw ahq,lw ahq]
 show RsI c n N ml ⟨onA x.st (aj x.st.s x.d).1,(aj x.st.s x.d).2.1,x.U.set i ⟨if (aj x.st.s x.d).2.2=false then 6 else 8,0,b,z⟩⟩;exact go _ _ (by split<;>omega)
def RsI.s8(h:RsI c n N ml x)(y:cD c n N ml)(l:NuL c N x.st.s.W)(hB:CoB c B x.st)(H:40<=B)(I:B<=1000000000000){i:Nat}(hi:i<n)(b z:Int)(hp:(⟨8,0,b,z⟩:Sp)=sv x.U i)(ht:(sv x.st.T i).pc=10):RsI c n N ml (be c N x i):=by
 refine kz ?_;intro hn J8 hk J1 KE oth KR bA bW wA wW lA lW lF fA fW HA HW HF SF mS lS JW tS aS;show RsI c n N ml ⟨onA x.st (ae x.st.s (nuFl N) 1),dS x.d N true,x.U.set i ⟨9,0,b,z⟩⟩;have hN:1<=N:=by omega
 refine h.upd (p':=⟨9,0,b,z⟩) hi (lF 1).2 (λ_ _=>rfl) (.inr (.inr (.inr (.inl ⟨rfl,.inr (.inr (.inr (.inl rfl))),ht⟩)))) (dH h hi ahv (SF 1)) (λj hj e hw=>absurd hw (oth ht j hj e)) (λ_=>by show ldW (ae _ _ _).W _≠0;rw[(lF 1).1,if_pos rfl];decide) (HF 1) (λV=>by unfold dE at V;simp at V) (λj hj e h0 h9=>(KR ht j hj e h0 h9).elim) (λ_ _=>?_) (λ_ e=>by simp at e);exact⟨⟨rfl,rfl,hN,rfl⟩,λe=>by simp[dS]at e,λj hj _=>Nat.zero_le _⟩
def RsI.s9(h:RsI c n N ml x)(y:cD c n N ml)(l:NuL c N x.st.s.W)(hB:CoB c B x.st)(Kd:40<=B)(Kj:B<=1000000000000){i:Nat}(hi:i<n)(b z:Int)(hp:(⟨9,0,b,z⟩:Sp)=sv x.U i)(ht:(sv x.st.T i).pc=10):RsI c n N ml (be c N x i):=by
 refine kz ?_;intro hn J8 hk J1 KE oth KR bA bW wA wW lA lW lF fA fW HA HW HF SF mS lS JW tS aS;obtain⟨⟨q1,Y,q3,q4⟩,q5,q6⟩:=KE rfl rfl;have ML:=J1 ⟨rfl,.inr (.inl rfl)⟩;have I:=gS x.st.s x.d;have hs:=svS (show i<x.U.length by rw[h.lU];exact hi)
 have nr:∀H j,dE (sv (x.U.set i ⟨H,0,b,z⟩) j)->j≠i/\dE (sv x.U j):=λH j V=>by
  rw[hs]at V;split at V;.unfold dE at V;simp at V
  .rename_i e;exact⟨e,V⟩
 have go:∀(H:Int) (d':Dr),(H=9\/H=10\/H=5)->(H=9->zM c n N d' x.st.s.W (x.U.set i ⟨H,0,b,z⟩))->(H=10->∀j,j<n->j≠i->¬dE (sv x.U j))->RsI c n N ml ⟨onA x.st (aj x.st.s x.d).1,d',x.U.set i ⟨H,0,b,z⟩⟩:=λH d' JU o9 Rq=>by
  refine h.upd (p':=⟨H,0,b,z⟩) hi (nt h y I) (λ_ _=>rfl) (by rcases JU with rfl|rfl|rfl;exact .inr (.inr (.inr (.inl ⟨rfl,.inr (.inr (.inr (.inl rfl))),ht⟩)));exact .inr (.inr (.inr (.inl ⟨rfl,.inr (.inr (.inr (.inr (.inl rfl)))),ht⟩)));exact .inr (.inr (.inr (.inl ⟨rfl,.inl rfl,ht⟩)))) (dH h hi ?_ (λq _=>by show ldW (aj _ _).1.W q=_;rw[I])) (λj hj _ hw=>by show ldW (aj _ _).1.W _≠0;rw[I];exact h.fl j hj hw) (λ_=>by show ldW (aj _ _).1.W _≠0;rw[I];exact ML) (λa _=>by show _<=ldW (aj _ _).1.W _;rw[I];exact Int.le_refl _) (λV=>by unfold dE at V;simp at V) (λj hj e h0 h9=>(KR ht j hj e h0 h9).elim) (λ_ h9=>?_) (λ_ h10=>Rq h10);.rw[<-hp,lw ahq,lw ahq]
  .show zM c n N d' (aj _ _).1.W _;rw[I];exact o9 h9
 show RsI c n N ml ⟨onA x.st (aj x.st.s x.d).1,(aj x.st.s x.d).2.1,x.U.set i ⟨if (aj x.st.s x.d).2.2=false then 9 else if (9:Int)=6 then 8 else if (aj x.st.s x.d).2.1.clear=true then 10 else 5,0,b,z⟩⟩;by_cases NF:x.d.second=true
 .have e1:aj x.st.s x.d=(af x.st.s (gaA x.d.at_),dR x.st.s x.d):=by unfold aj;rw[q1,NF];rfl
  have e2:(aj x.st.s x.d).2=dR x.st.s x.d:=by rw[e1]
  rw[e2];unfold dR;by_cases O:ldW x.st.s.W (gaA x.d.at_)=x.d.o
  .rw[if_neg (by simpa using O)];have hg:=h.g x.d.at_ q3;have WI:=q5 NF;have Wd:gQ c n x.U x.d.at_=0:=by omega
   have Nd:∀j,j<n->dE (sv x.U j)->c.node j≠x.d.at_:=λj hj V e=>by
    have:0<gQ c n x.U x.d.at_:=jB (P:=λj=>decide (c.node j=x.d.at_)&&fo (sv x.U j)) hj (by
     simp only[Bool.and_eq_true,decide_eq_true_eq]
     exact⟨e,Eo ⟨V.1,.inr V.2⟩⟩)
    omega
   by_cases OR:x.d.at_+1=x.d.lim;.rw[if_pos OR];refine go 10 _ ahp (λe=>by simp at e) (λ_ j hj e V=>?_);have h1:=q6 j hj V;have h2:=Nd j hj V;have h3:=J8 j hj;omega
   .rw[if_neg OR];refine go 9 _ ahp (λ_=>⟨⟨q1,Y,by show x.d.at_+1<N;omega,q4⟩,λe=>by simp at e,λj hj V=>?_⟩) (λe=>by simp at e);exact acn
  .rw[if_pos O,if_pos Y];exact go 5 _ ahp (λe=>by simp at e) (λe=>by simp at e)
 .refine ajv ?_;intro e1 e2;exact go 9 _ ahp (λ_=>⟨⟨q1,Y,q3,q4⟩,λ_=>Int.le_refl _,λj hj V=>q6 j hj (nr 9 j V).2⟩) (λe=>by simp at e)
def RsI.s12(h:RsI c n N ml x)(y:cD c n N ml)(l:NuL c N x.st.s.W)(hB:CoB c B x.st)(H:40<=B)(I:B<=1000000000000){i:Nat}(hi:i<n)(b z:Int)(hp:(⟨12,0,b,z⟩:Sp)=sv x.U i)(ht:(sv x.st.T i).pc=10):RsI c n N ml (be c N x i):=by
 refine kz ?_;intro hn J8 hk J1 KE oth KR bA bW wA wW lA lW lF fA fW HA HW HF SF mS lS JW tS aS;show RsI c n N ml ⟨aA (onA x.st (ae x.st.s (nuFl N) 0)) i,x.d,x.U.set i ⟨13,0,b,z⟩⟩;refine ajS ?_;intro hm hs QI;refine h.upd (p':=⟨13,0,b,z⟩) hi hm (λj hj=>(eR (st:=onA x.st (ae x.st.s (nuFl N) 0)) (lF 0).2.v hi).1 hj) (.inr (.inr (.inr (.inr ⟨rfl,rfl,by omega⟩)))) ?_ (λj hj e hw=>absurd hw (oth ht j hj e)) (λhw=>by unfold gD at hw;simp at hw) (λa ha=>?_) (λV=>by unfold dE at V;simp at V) (λ_ _ _ _ _=>rfl) (λ_ e=>by simp at e) (λ_ e=>by simp at e);.show ∀a,a<N->ldW (aA _ i).s.W _=_;rw[hs];exact dH h hi ahv (SF 0)
 .show _<=ldW (aA _ i).s.W _;rw[hs];exact HF 0 a ha
def RsI.s13(h:RsI c n N ml x)(y:cD c n N ml)(l:NuL c N x.st.s.W)(hB:CoB c B x.st)(I:40<=B)(O:B<=1000000000000){i:Nat}(hi:i<n)(b z:Int)(hp:(⟨13,0,b,z⟩:Sp)=sv x.U i)(ht:10<(sv x.st.T i).pc):RsI c n N ml (be c N x i):=by
 refine kz ?_;intro hn J8 hk J1 KE oth KR bA bW wA wW lA lW lF fA fW HA HW HF SF mS lS JW tS aS;have a1:=aS.2 ht;show RsI c n N ml ⟨am c x.st i,x.d,x.U.set i ⟨if bo (sv x.st.T i) (sv (am c x.st i).T i)then 0 else 13,0,b,z⟩⟩;rw[a1.2];by_cases H:(sv (am c x.st i).T i).pc=0;.rw[decide_eq_true H];exact h.upd (p':=⟨0,0,b,z⟩) hi mS tS (.inl ⟨rfl,by omega⟩) (dH h hi ahv (λq hq=>JW q ahp)) (λj hj _ hw=>by rw[JW _ (Int.le_refl _)];exact h.fl j hj hw) (λhw=>by unfold gD at hw;simp at hw) (λa ha=>by rw[JW _ ahx];exact Int.le_refl _) (λV=>by unfold dE at V;simp at V) (λ_ _ _ _ _=>rfl) (λ_ e=>by simp at e) (λ_ e=>by simp at e)
 .rw[decide_eq_false H];have Y:=a1.1;exact h.upd (p':=⟨13,0,b,z⟩) hi mS tS (.inr (.inr (.inr (.inr ⟨rfl,rfl,by omega⟩)))) (dH h hi ahC (λq hq=>JW q ahp)) (λj hj _ hw=>by rw[JW _ (Int.le_refl _)];exact h.fl j hj hw) (λhw=>by unfold gD at hw;simp at hw) (λa ha=>by rw[JW _ ahx];exact Int.le_refl _) (λV=>by unfold dE at V;simp at V) (λ_ _ _ _ _=>rfl) (λ_ e=>by simp at e) (λ_ e=>by simp at e)
def RsI.step(h:RsI c n N ml x)(y:cD c n N ml)(l:NuL c N x.st.s.W)(Y:CoB c B x.st)(O:40<=B)(V:B<=1000000000000){i:Nat}(hi:i<n):RsI c n N ml (be c N x i):=by
 have hk:=h.k i hi;obtain⟨p,I⟩:=LE (sv x.U i);rw[<-I]at hk;by_cases E':p.pc=0\/p.pc=10;.unfold be;rw[<-I,if_pos E'];exact h
 unfold iO at hk;obtain⟨pc,u,b,z⟩:=p;simp only at hk E';rcases hk with⟨q1,q2⟩|⟨rfl,q2,H⟩|⟨rfl,rfl,H⟩|⟨rfl,q2,H⟩|⟨rfl,rfl,H⟩
 .exact absurd (.inl q1) E'
 .rcases q2 with rfl|rfl|rfl|rfl
  .exact h.s1 y l Y O V hi b z I H
  .exact h.s2 y l Y O V hi b z I H
  .exact absurd (.inr rfl) E'
  .exact h.s11 y l Y O V hi b z I H
 .exact h.s7 y l Y O V hi b z I H
 .rcases q2 with rfl|rfl|rfl|rfl|rfl|rfl
  .exact h.s5 y l Y O V hi b z I H
  .exact h.s6 y l Y O V hi b z I H
  .exact h.s8 y l Y O V hi b z I H
  .exact h.s9 y l Y O V hi b z I H
  .exact absurd (.inr rfl) E'
  .exact h.s12 y l Y O V hi b z I H
 .exact h.s13 y l Y O V hi b z I H
end
end
section
open Go Go.RowKit
section
variable{c:CoC}{x:Nu}{st:Co}
def zg(h:bM c n L B o x.st)(k:kP c n N L)(hB:40<=B)(Y:B<=1000000000000){i:Nat}(hi:i<n)(p:Sp):bM c n L (B+4) (o+1) (fI c N x i p).1:=by
 refine ai8 ?_;intro Ly OU J0;have Sa:∀{H},bM c n L (B+2) (o+1) H->bM c n L (B+4) (o+1) (bI c H i):=λ{H} q=>by exact abV
 have V:∀{H},bM c n L (B+2) (o+1) H->bM c n L (B+4) (o+1) (aA H i):=λ{H} q=>by exact abW
 have I:bM c n L (B+4) (o+1) (onA x.st (aj x.st.s x.d).1):=h.on ahp ((h.bd.w.mono ahp).same (gS _ _)) (vv _ _);unfold fI;split
 .split;.exact abX
  split;.exact(OU _).mono ahp
  .exact abX
 split;.exact abY
 split;.exact V (J0 _ _ ahp)
 split;.exact abY
 split;.exact(J0 _ _ ahp).mono ahp
 split;.exact(J0 _ _ ahp).mono ahp
 .exact I
def zh(h:bM c n L B o x.st)(k:kP c n N L)(I:40<=B)(H:B<=1000000000000){i:Nat}(hi:i<n):bM c n L (B+4) (o+1) (be c N x i).st:=by
 unfold be;split;.exact h.up ahp ahp
 .exact zg h k I H hi _
structure RsS(c:CoC)(n N L:Nat)(ml:Nat->Nat)(B:Int)(x:Nu):Prop where
 i:RsI c n N ml x
 ok:bM c n L B x.st.s.ops x.st
 dok:x.d.busy=true->x.d.at_<N/\x.d.lim=N
def DE{d:Dr}(h:1<=N)(b:Bool):(dS d N b).busy=true->(dS d N b).at_<N/\(dS d N b).lim=N:=λ_=>⟨h,rfl⟩
def AL{d:Dr}{s:Ar}(h:d.busy=true->d.at_<N/\d.lim=N):(aj s d).2.1.busy=true->(aj s d).2.1.at_<N/\(aj s d).2.1.lim=N:=by
 unfold aj;split
 .rename_i I;have:=h I;split
  .show(dR s d).1.busy=true->(dR s d).1.at_<N/\(dR s d).1.lim=N;unfold dR;split
   .split;.intro e;simp at e
    .intro _;exact this
   .split;.intro e;simp at e
    .intro _;simp only;omega
  .intro _;exact this
 .exact h
def AK{c:CoC}{x:Nu}(h:x.d.busy=true->x.d.at_<N/\x.d.lim=N)(hN:1<=N)(i:Nat)(p:Sp):(fI c N x i p).2.1.busy=true->(fI c N x i p).2.1.at_<N/\(fI c N x i p).2.1.lim=N:=by unfold fI;(repeat' split)<;>first|exact h|exact DE hN _|exact AL h
def FD{c:CoC}{x:Nu}(h:x.d.busy=true->x.d.at_<N/\x.d.lim=N)(hN:1<=N)(i:Nat):(be c N x i).d.busy=true->(be c N x i).d.at_<N/\(be c N x i).d.lim=N:=by
 unfold be;split;.exact h
 .exact AK h hN _ _
def xy(c:CoC)(x:Nu)(i:Nat)(r:Bool):(cG c x i r).d=x.d:=by unfold cG;(repeat' split)<;>rfl
def y7(x:Nu)(i:Nat):(aK x i).d=x.d:=by unfold aK;split<;>rfl
def sd(c:CoC)(N:Nat)(x:Nu)(kd i:Int):Nu:=
 if okI x.U i then if kd=0 then be c N x i.toNat else if kd=1 then cG c x i.toNat false else if kd=2 then aK x i.toNat else if kd=3 then cG c x i.toNat true else x else x
def RsS.act(h:RsS c n N L ml B x)(k:NuK c n N L ml)(H:40<=B)(I:B<=1000000000000)(kd i:Int):RsS c n N L ml (B+4) (sd c N x kd i)/\(sd c N x kd i).st.s.ops<=x.st.s.ops+1/\(kd≠0->(sd c N x kd i).st.s.ops=x.st.s.ops):=by
  have same:RsS c n N L ml (B+4) x:=⟨h.i,h.ok.mono ahp,h.dok⟩;unfold sd;split
  . rename_i O;have hi:i.toNat<n:=(by obtain⟨V,h1⟩:=O;have:=h.i.lU;omega);split;. rename_i k0;have q:=zh h.ok k.w H I hi;refine⟨⟨h.i.step k.y ⟨k.tg,by rw[h.ok.len];exact k.len⟩ h.ok.bd H I hi,⟨q.bd,q.v,q.len,Nat.le_refl _⟩,FD h.dok k.N1 _⟩,q.ops,λe=>absurd k0 e⟩
    split;. have q:=lr h.ok k.w H hi false;refine⟨⟨h.i.ask k.y hi false,by rw[q.2];exact q.1,by rw[xy];exact h.dok⟩,by rw[q.2];omega,λ_=>by rw[q.2]⟩
    split;. have e:=kM x i.toNat;refine⟨⟨h.i.leave hi,by rw[e];exact same.ok,by rw[y7];exact h.dok⟩,by rw[e];omega,λ_=>by rw[e]⟩
    split;. have q:=lr h.ok k.w H hi true;refine⟨⟨h.i.ask k.y hi true,by rw[q.2];exact q.1,by rw[xy];exact h.dok⟩,by rw[q.2];omega,λ_=>by rw[q.2]⟩
    . exact⟨same,by omega,λ_=>rfl⟩
  . exact⟨same,by omega,λ_=>rfl⟩
end
section
variable{s:Ar}
def JH(hc:a5 P T=0)(Li:1<=kg/\kg<=5)(Y:1<=kl/\kl<=5)(hp:1<=par/\par<=4)(hs:s.W=[]):RsS (eZ kg kl par bud P T (smA s (ac P).length)) T.length (ac P).length (bE kg kl par P T (smA s (ac P).length)).s.W.length (mtQ P T) 40 ⟨bE kg kl par P T (smA s (ac P).length),dr0,List.replicate T.length Sp.zero⟩/\(bE kg kl par P T (smA s (ac P).length)).s.ops<=s.ops+40:=by
  refine ajy ?_;intro hz OK mP;have hw:∀y:Int,y<=((smA s (ac P).length).W.length:Int)->ldW (bE kg kl par P T (smA s (ac P).length)).s.W y=0:=λy hy=>by exact abZ
  have h:∀i,sv (List.replicate T.length Sp.zero) i=Sp.zero:=svR _;refine⟨⟨⟨xu hc Li Y hp OK,by simp,λi hi=> .inl ⟨?_,?_⟩,λa V=>?_,λi hi hw=>?_,λi hi h0 O=>?_,λi hi h0 O=>?_⟩,⟨mP.bd,mP.v,mP.len,Nat.le_refl _⟩,λe=>by simp[dr0]at e⟩,mP.ops⟩;. show(sv (List.replicate T.length Sp.zero) i).pc=0;rw[h];rfl
  . show(sv (List.replicate T.length Sp.zero) i).pc=0;rw[h];rfl
  . have hc0:gQ (eZ kg kl par bud P T (smA s (ac P).length)) T.length (List.replicate T.length Sp.zero) a=0:=(by unfold gQ jd;refine List.countP_eq_zero.2 (λj _=>?_);rw[h];simp[fo,Sp.zero]);show ldW _ _=ldW _ _+((gQ _ _ (List.replicate T.length Sp.zero) a:Nat):Int);rw[hc0];have g1:=eM V;have g2:=bG V;unfold nuFl at g1 g2;have hl:=hz.2;rw[hw _ ahN,hw _ ahN];rfl
  . have I:gD (sv (List.replicate T.length Sp.zero) i):=hw;rw[h]at I;unfold gD Sp.zero at I;simp at I
  . have H:(sv (List.replicate T.length Sp.zero) i).pc=9:=O;rw[h]at H;simp[Sp.zero]at H
  . have H:(sv (List.replicate T.length Sp.zero) i).pc=10:=O;rw[h]at H;simp[Sp.zero]at H
end
end
section
open Go
variable{p:Sp}
section
variable{c:CoC}{x:Nu}
def rE(h:¬(p.a=1/\(p.pc=3\/p.pc=4\/p.pc=10\/p.pc=11))):ft p=false:=decide_eq_false h
def Ep(h:p.a=1/\(p.pc=3\/p.pc=4\/p.pc=10\/p.pc=11)):ft p=true:=decide_eq_true h
def Jl(h:¬(p.a=0/\(p.pc=7\/p.pc=9\/p.pc=10\/p.pc=12))):wrC p=false:=decide_eq_false h
def WsI.ask(h:WsI c n N ml x){i:Nat}(hi:i<n)(r:Bool):WsI c n N ml (gr x i r):=by
 unfold gr;split
 .rename_i Y;have O:=h.k i hi;have H:(sv x.st.T i).pc=0:=by unfold im at O;omega
  have I:ft (sv x.U i)=false:=rE ahp;have hc:wrC (sv x.U i)=false:=Jl ahp;cases r;.exact h.upd (p':=⟨5,0,0,0⟩) hi h.m (λ_ _=>rfl) (.inr (.inr (.inl ⟨rfl,rfl,H⟩))) (dI h hi (by rw[I];rfl) (λ_ _=>rfl)) (ez h hi (by rw[hc];rfl) rfl) (λ_ _=>Int.le_refl _) (λV=>by unfold dy at V;simp at V) (λ_ _ _ _ _=>rfl) (λ_ e=>by simp at e) (λ_ e=>by simp at e)
  .exact h.upd (p':=⟨1,1,0,0⟩) hi h.m (λ_ _=>rfl) (.inr (.inl ⟨rfl,.inl rfl,H⟩)) (dI h hi (by rw[I];rfl) (λ_ _=>rfl)) (ez h hi (by rw[hc];rfl) rfl) (λ_ _=>Int.le_refl _) (λV=>by unfold dy at V;simp at V) (λ_ _ _ _ _=>rfl) (λe=>by simp at e) (λe=>by simp at e)
 .exact h
def WsI.leave(h:WsI c n N ml x){i:Nat}(hi:i<n):WsI c n N ml (aK x i):=by
 unfold aK;split
 .rename_i h10;have O:=h.k i hi;obtain⟨p,hp⟩:=LE (sv x.U i);rw[<-hp]at O h10 ⊢;have I:(p.a=1/\(sv x.st.T i).pc=0)\/(p.a=0/\(sv x.st.T i).pc=10):=by unfold im at O;omega
  obtain⟨pc,u,b,z⟩:=p;simp only at h10 I;subst h10;rcases I with⟨rfl,H⟩|⟨rfl,H⟩
  .exact h.upd (p':=⟨11,1,b,z⟩) hi h.m (λ_ _=>rfl) (.inr (.inl ⟨rfl,.inr (.inr (.inr (.inr (.inr rfl)))),H⟩)) (dI h hi ahv (λ_ _=>rfl)) (ez h hi ahv rfl) (λ_ _=>Int.le_refl _) (λV=> .inl (by rw[<-hp];exact⟨rfl,.inl rfl⟩)) (λ_ _ _ _ _=>rfl) (λe=>by simp at e) (λe=>by simp at e)
  .exact h.upd (p':=⟨12,0,b,z⟩) hi h.m (λ_ _=>rfl) (.inr (.inr (.inr (.inr (.inl ⟨rfl,.inr (.inr rfl),H⟩))))) (dI h hi ahv (λ_ _=>rfl)) (ez h hi ahv rfl) (λ_ _=>Int.le_refl _) (λV=>by unfold dy at V;simp at V) (λ_ _ _ _ _=>rfl) (λ_ e=>by simp at e) (λ_ e=>by simp at e)
 .exact h
def kB{P:Prop}(q:Q)(h:Kq Q->P:=by
    intro q_
    have hn:=(y.nd i hi).1
    have J8:∀j,j<n->c.node j<N:=λj hj=>(y.nd j hj).1
    have hk:=h.k i hi
    have KE:=h.dr i hi
    have oth:(sv x.st.T i).pc=10->∀j,j<n->j≠i->¬ER (sv x.U j):=λht j hj e hw=>e (h.one y hj hi (Fd (h.k j hj) hw) ht)
    refine ajQ ?_
    intro KR bA bW
    have bF:=hB.w.ld ahp (nuFl N)
    refine ai3 ?_
    intro wA wW
    have lA:=rf h y l (z:=gaA (c.node i)) ⟨(eM hn).1,by have:=(eM hn).2;omega⟩ (ldW x.st.s.W (gaA (c.node i))+1) (s':=addA x.st.s (gaA (c.node i)) 1) (by rw[dX,wA])
    have lW:=rf h y l (z:=gaW (c.node i)) ⟨(bG hn).1,by have:=(bG hn).2;omega⟩ (ldW x.st.s.W (gaW (c.node i))+1) (s':=addA x.st.s (gaW (c.node i)) 1) (by rw[dX,wW])
    have lF:∀v:Int,(v=1\/v= -1)->_:=λv O=>rf h y l (z:=nuFl N) ⟨by unfold nuFl;omega,Int.le_refl _⟩ (ldW x.st.s.W (nuFl N)+v) (s':=addA x.st.s (nuFl N) v) (by rw[dX,IntWalk.i64_in _ ahp])
    refine aiP ?_
    intro fA fW HA
    have HW:∀a,a<N->ldW x.st.s.W (gaW a)<=ldW (addA x.st.s (gaW (c.node i)) 1).W (gaW a):=λa _=>by
      exact abU
    have HF:∀v:Int,(v=1\/v= -1)->∀a,a<N->ldW x.st.s.W (gaW a)<=ldW (addA x.st.s (nuFl N) v).W (gaW a):=λv O a ha=>by rw[(lF v O).1,if_neg ahx];exact Int.le_refl _
    have SF:∀v:Int,(v=1\/v= -1)->∀q,q<nuFl N->ldW (addA x.st.s (nuFl N) v).W q=ldW x.st.s.W q:=λv O q hq=>by rw[(lF v O).1,if_neg ahp]
    have eL:(af x.st.s (nuFl N)).W=x.st.s.W:=aP _ _
    have mS:=h.m.step y hB ahp ahp hi
    have lS:=h.m.stepLow y hB ahp ahp hi
    have JW:∀q,q<=nuFl N->ldW (am c x.st i).s.W q=ldW x.st.s.W q:=λq hq=>lS q air
    have tS:∀j,j≠i->sv (am c x.st i).T j=sv x.st.T j:=λj hj=>nY h.m.v hi hj
    have aS:=me h.m.v hi
    unfold bD
    rw[<-hp]
    rw[<-hp]at hk KE
    rw[if_neg ahq]
    revert hn J8 hk KE oth KR bA bW bF wA wW lA lW lF fA fW HA HW HF SF eL mS lS JW tS aS
    exact q_.o):P:=h ⟨q⟩
def WsI.s1(h:WsI c n N ml x)(y:cD c n N ml)(l:NuL c N x.st.s.W)(hB:CoB c B x.st)(I:40<=B)(Y:B<=1000000000000){i:Nat}(hi:i<n)(b z:Int)(hp:(⟨1,1,b,z⟩:Sp)=sv x.U i)(ht:(sv x.st.T i).pc=0):WsI c n N ml (bD c N x i):=by
 refine kB ?_;intro hn J8 hk KE oth KR bA bW bF wA wW lA lW lF fA fW HA HW HF SF eL mS lS JW tS aS;show WsI c n N ml ⟨onA x.st (af x.st.s (nuFl N)),x.d,x.U.set i ⟨if ldW x.st.s.W (nuFl N)=0 then 2 else 1,1,b,z⟩⟩;by_cases H:ldW x.st.s.W (nuFl N)=0;.rw[if_pos H];exact h.upd (p':=⟨2,1,b,z⟩) hi (li h y eL) (λ_ _=>rfl) (.inr (.inl ⟨rfl,.inr (.inl rfl),ht⟩)) (dI h hi ahv (λq _=>by show ldW (af _ _).W q=_;rw[eL])) (ez h hi ahv aia) (λa _=>by show _<=ldW (af _ _).W _;rw[eL];exact Int.le_refl _) (λV=>by unfold dy at V;simp at V) (λ_ _ _ _ _=>rfl) (λe=>by simp at e) (λe=>by simp at e)
 .rw[if_neg H];exact h.upd (p':=⟨1,1,b,z⟩) hi (li h y eL) (λ_ _=>rfl) (.inr (.inl ⟨rfl,.inl rfl,ht⟩)) (dI h hi ahC (λq _=>by show ldW (af _ _).W q=_;rw[eL])) (ez h hi ahC aia) (λa _=>by show _<=ldW (af _ _).W _;rw[eL];exact Int.le_refl _) (λV=>by unfold dy at V;simp at V) (λ_ _ _ _ _=>rfl) (λe=>by simp at e) (λe=>by simp at e)
def WsI.s3(h:WsI c n N ml x)(y:cD c n N ml)(l:NuL c N x.st.s.W)(hB:CoB c B x.st)(I:40<=B)(Y:B<=1000000000000){i:Nat}(hi:i<n)(b z:Int)(hp:(⟨3,1,b,z⟩:Sp)=sv x.U i)(ht:(sv x.st.T i).pc=0):WsI c n N ml (bD c N x i):=by
 refine kB ?_;intro hn J8 hk KE oth KR bA bW bF wA wW lA lW lF fA fW HA HW HF SF eL mS lS JW tS aS;show WsI c n N ml ⟨onA x.st (af x.st.s (nuFl N)),x.d,x.U.set i ⟨if ldW x.st.s.W (nuFl N)=0 then 10 else 4,1,b,z⟩⟩;by_cases H:ldW x.st.s.W (nuFl N)=0;.rw[if_pos H];exact h.upd (p':=⟨10,1,b,z⟩) hi (li h y eL) (λ_ _=>rfl) (.inr (.inl ⟨rfl,.inr (.inr (.inr (.inr (.inl rfl)))),ht⟩)) (dI h hi ahv (λq _=>by show ldW (af _ _).W q=_;rw[eL])) (ez h hi ahv aia) (λa _=>by show _<=ldW (af _ _).W _;rw[eL];exact Int.le_refl _) (λ_=> .inr (λj hj _ hw=>h.none H hj ⟨hw.1,.inr hw.2⟩)) (λ_ _ _ _ _=>rfl) (λe=>by simp at e) (λe=>by simp at e)
 .rw[if_neg H];exact h.upd (p':=⟨4,1,b,z⟩) hi (li h y eL) (λ_ _=>rfl) (.inr (.inl ⟨rfl,.inr (.inr (.inr (.inl rfl))),ht⟩)) (dI h hi ahv (λq _=>by show ldW (af _ _).W q=_;rw[eL])) (ez h hi ahv aia) (λa _=>by show _<=ldW (af _ _).W _;rw[eL];exact Int.le_refl _) (λV=>by unfold dy at V;simp at V) (λ_ _ _ _ _=>rfl) (λe=>by simp at e) (λe=>by simp at e)
def WsI.s2(h:WsI c n N ml x)(y:cD c n N ml)(l:NuL c N x.st.s.W)(hB:CoB c B x.st)(H:40<=B)(I:B<=1000000000000){i:Nat}(hi:i<n)(b z:Int)(hp:(⟨2,1,b,z⟩:Sp)=sv x.U i)(ht:(sv x.st.T i).pc=0):WsI c n N ml (bD c N x i):=by refine kB ?_;intro hn J8 hk KE oth KR bA bW bF wA wW lA lW lF fA fW HA HW HF SF eL mS lS JW tS aS;show WsI c n N ml ⟨onA x.st (addA x.st.s (gaA (c.node i)) 1),x.d,x.U.set i ⟨3,1,b,z⟩⟩;exact h.upd (p':=⟨3,1,b,z⟩) hi lA.2 (λ_ _=>rfl) (.inr (.inl ⟨rfl,.inr (.inr (.inl rfl)),ht⟩)) (Hl h J8 hi ahv rfl lA.1) (ez h hi ahv (fA)) HA (λV=>by unfold dy at V;simp at V) (λ_ _ _ _ _=>rfl) (λe=>by simp at e) (λe=>by simp at e)
def WsI.s4(h:WsI c n N ml x)(y:cD c n N ml)(l:NuL c N x.st.s.W)(hB:CoB c B x.st)(H:40<=B)(I:B<=1000000000000){i:Nat}(hi:i<n)(b z:Int)(hp:(⟨4,1,b,z⟩:Sp)=sv x.U i)(ht:(sv x.st.T i).pc=0):WsI c n N ml (bD c N x i):=by refine kB ?_;intro hn J8 hk KE oth KR bA bW bF wA wW lA lW lF fA fW HA HW HF SF eL mS lS JW tS aS;show WsI c n N ml ⟨onA x.st (addA x.st.s (gaW (c.node i)) 1),x.d,x.U.set i ⟨1,1,b,z⟩⟩;exact h.upd (p':=⟨1,1,b,z⟩) hi lW.2 (λ_ _=>rfl) (.inr (.inl ⟨rfl,.inl rfl,ht⟩)) (Bp h J8 hi ahv rfl lW.1) (ez h hi ahv (fW)) HW (λV=>by unfold dy at V;simp at V) (λ_ _ _ _ _=>rfl) (λe=>by simp at e) (λe=>by simp at e)
def WsI.s11(h:WsI c n N ml x)(y:cD c n N ml)(l:NuL c N x.st.s.W)(hB:CoB c B x.st)(H:40<=B)(I:B<=1000000000000){i:Nat}(hi:i<n)(b z:Int)(hp:(⟨11,1,b,z⟩:Sp)=sv x.U i)(ht:(sv x.st.T i).pc=0):WsI c n N ml (bD c N x i):=by refine kB ?_;intro hn J8 hk KE oth KR bA bW bF wA wW lA lW lF fA fW HA HW HF SF eL mS lS JW tS aS;show WsI c n N ml ⟨onA x.st (addA x.st.s (gaW (c.node i)) 1),x.d,x.U.set i ⟨0,1,b,z⟩⟩;exact h.upd (p':=⟨0,1,b,z⟩) hi lW.2 (λ_ _=>rfl) (.inl ⟨rfl,ht⟩) (Bp h J8 hi ahv rfl lW.1) (ez h hi ahv (fW)) HW (λV=>by unfold dy at V;simp at V) (λ_ _ _ _ _=>rfl) (λe=>by simp at e) (λe=>by simp at e)
def WsI.s5(h:WsI c n N ml x)(y:cD c n N ml)(l:NuL c N x.st.s.W)(hB:CoB c B x.st)(I:40<=B)(Y:B<=1000000000000){i:Nat}(hi:i<n)(b z:Int)(hp:(⟨5,0,b,z⟩:Sp)=sv x.U i)(ht:(sv x.st.T i).pc=0):WsI c n N ml (bD c N x i):=by
 refine kB ?_;intro hn J8 hk KE oth KR bA bW bF wA wW lA lW lF fA fW HA HW HF SF eL mS lS JW tS aS;show WsI c n N ml ⟨bI c (onA x.st (addA x.st.s (nuFl N) (1))) i,x.d,x.U.set i ⟨7,0,b,z⟩⟩;have hm:=(lF _ (show(1:Int)=1\/(1:Int)= -1 by omega)).2.ask y hi;have hs:=gx c (onA x.st (addA x.st.s (nuFl N) (1))) i;have H:=ii (c:=c) (st:=(onA x.st (addA x.st.s (nuFl N) (1)))) (j:=i) (lF _ (show(1:Int)=1\/(1:Int)= -1 by omega)).2.v hi;have QI:(sv (bI c (onA x.st (addA x.st.s (nuFl N) (1))) i).T i).pc=1:=H.2 ht;refine h.upd (p':=⟨7,0,b,z⟩) hi hm (λj hj=>(ii (c:=c) (st:=(onA x.st (addA x.st.s (nuFl N) (1)))) (lF _ (show(1:Int)=1\/(1:Int)= -1 by omega)).2.v hi).1 hj) (.inr (.inr (.inr (.inl ⟨rfl,rfl,by omega,by omega⟩)))) ?_ ?_ (λa ha=>?_) (λV=>by unfold dy at V;simp at V) (λ_ _ _ _ _=>rfl) (λ_ e=>by simp at e) (λ_ e=>by simp at e);.show ∀a,a<N->ldW (bI c (onA x.st (addA x.st.s (nuFl N) (1))) i).s.W _=_;rw[hs];exact(dI h hi ahv (SF _ (show(1:Int)=1\/(1:Int)= -1 by omega)))
 .show ldW (bI c (onA x.st (addA x.st.s (nuFl N) (1))) i).s.W _=_;rw[hs];exact(Ju h hi ahv rfl (by show ldW (addA _ _ _).W _=_;rw[(lF _ (show(1:Int)=1\/(1:Int)= -1 by omega)).1,if_pos rfl]))
 .show _<=ldW (bI c (onA x.st (addA x.st.s (nuFl N) (1))) i).s.W _;rw[hs];exact HF _ (show(1:Int)=1\/(1:Int)= -1 by omega) a ha
def WsI.s12(h:WsI c n N ml x)(y:cD c n N ml)(l:NuL c N x.st.s.W)(hB:CoB c B x.st)(I:40<=B)(Y:B<=1000000000000){i:Nat}(hi:i<n)(b z:Int)(hp:(⟨12,0,b,z⟩:Sp)=sv x.U i)(ht:(sv x.st.T i).pc=10):WsI c n N ml (bD c N x i):=by
 refine kB ?_;intro hn J8 hk KE oth KR bA bW bF wA wW lA lW lF fA fW HA HW HF SF eL mS lS JW tS aS;show WsI c n N ml ⟨aA (onA x.st (addA x.st.s (nuFl N) (-1))) i,x.d,x.U.set i ⟨13,0,b,z⟩⟩;have hm:=(lF _ (show(-1:Int)=1\/(-1:Int)= -1 by omega)).2.leave y hi;have hs:=fz (onA x.st (addA x.st.s (nuFl N) (-1))) i;have H:=eR (st:=(onA x.st (addA x.st.s (nuFl N) (-1)))) (j:=i) (lF _ (show(-1:Int)=1\/(-1:Int)= -1 by omega)).2.v hi;have QI:(sv (aA (onA x.st (addA x.st.s (nuFl N) (-1))) i).T i).pc=11:=H.2 ht;refine h.upd (p':=⟨13,0,b,z⟩) hi hm (λj hj=>(eR (st:=(onA x.st (addA x.st.s (nuFl N) (-1)))) (lF _ (show(-1:Int)=1\/(-1:Int)= -1 by omega)).2.v hi).1 hj) (.inr (.inr (.inr (.inr (.inr ⟨rfl,rfl,by omega⟩))))) ?_ ?_ (λa ha=>?_) (λV=>by unfold dy at V;simp at V) (λ_ _ _ _ _=>rfl) (λ_ e=>by simp at e) (λ_ e=>by simp at e);.show ∀a,a<N->ldW (aA (onA x.st (addA x.st.s (nuFl N) (-1))) i).s.W _=_;rw[hs];exact(dI h hi ahv (SF _ (show(-1:Int)=1\/(-1:Int)= -1 by omega)))
 .show ldW (aA (onA x.st (addA x.st.s (nuFl N) (-1))) i).s.W _=_;rw[hs];exact(FK h hi ahv rfl (by show ldW (addA _ _ _).W _=_;rw[(lF _ (show(-1:Int)=1\/(-1:Int)= -1 by omega)).1,if_pos rfl]))
 .show _<=ldW (aA (onA x.st (addA x.st.s (nuFl N) (-1))) i).s.W _;rw[hs];exact HF _ (show(-1:Int)=1\/(-1:Int)= -1 by omega) a ha
def WsI.s7(h:WsI c n N ml x)(y:cD c n N ml)(l:NuL c N x.st.s.W)(hB:CoB c B x.st)(Kd:40<=B)(Kj:B<=1000000000000){i:Nat}(hi:i<n)(b z:Int)(hp:(⟨7,0,b,z⟩:Sp)=sv x.U i)(ht:0<(sv x.st.T i).pc/\(sv x.st.T i).pc<10):WsI c n N ml (bD c N x i):=by
 refine kB ?_;intro hn J8 hk KE oth KR bA bW bF wA wW lA lW lF fA fW HA HW HF SF eL mS lS JW tS aS;have a1:=aS.1 ht;show WsI c n N ml ⟨am c x.st i,if bo (sv x.st.T i) (sv (am c x.st i).T i)then dS x.d N false else x.d,x.U.set i ⟨if bo (sv x.st.T i) (sv (am c x.st i).T i)then 9 else 7,0,b,z⟩⟩;rw[a1.2];by_cases H:(sv (am c x.st i).T i).pc=10;.rw[decide_eq_true H];refine h.upd (p':=⟨9,0,b,z⟩) (d':=dS x.d N false) hi mS tS (.inr (.inr (.inr (.inr (.inl ⟨rfl,.inl rfl,H⟩))))) (dI h hi ahv (λq hq=>JW q ahp)) (ez h hi ahv (JW _ (Int.le_refl _))) (λa ha=>by rw[JW _ ahx];exact Int.le_refl _) (λV=>by unfold dy at V;simp at V) (λj hj e h0 h9=>?_) (λ_ _=>⟨⟨rfl,rfl,by show 1<=N;omega,rfl⟩,λe=>by simp[dS]at e,λj hj _=>Nat.zero_le _⟩) (λ_ e=>by simp at e);have h2:=(Fd (h.k j hj) ⟨h0,.inl h9⟩:_);have Y:=mS.one y hj hi (by rw[tS j e];omega) ahp;exact absurd Y e
 .rw[decide_eq_false H];exact h.upd (p':=⟨7,0,b,z⟩) hi mS tS (.inr (.inr (.inr (.inl ⟨rfl,rfl,by have I:=a1.1;omega,by have I:=a1.1;omega⟩)))) (dI h hi ahC (λq hq=>JW q ahp)) (ez h hi ahC (JW _ (Int.le_refl _))) (λa ha=>by rw[JW _ ahx];exact Int.le_refl _) (λV=>by unfold dy at V;simp at V) (λ_ _ _ _ _=>rfl) (λ_ e=>by simp at e) (λ_ e=>by simp at e)
def WsI.s13(h:WsI c n N ml x)(y:cD c n N ml)(l:NuL c N x.st.s.W)(hB:CoB c B x.st)(I:40<=B)(Y:B<=1000000000000){i:Nat}(hi:i<n)(b z:Int)(hp:(⟨13,0,b,z⟩:Sp)=sv x.U i)(ht:10<(sv x.st.T i).pc):WsI c n N ml (bD c N x i):=by
 refine kB ?_;intro hn J8 hk KE oth KR bA bW bF wA wW lA lW lF fA fW HA HW HF SF eL mS lS JW tS aS;have a1:=aS.2 ht;show WsI c n N ml ⟨am c x.st i,x.d,x.U.set i ⟨if bo (sv x.st.T i) (sv (am c x.st i).T i)then 0 else 13,0,b,z⟩⟩;rw[a1.2];by_cases H:(sv (am c x.st i).T i).pc=0;.rw[decide_eq_true H];exact h.upd (p':=⟨0,0,b,z⟩) hi mS tS (.inl ⟨rfl,H⟩) (dI h hi ahv (λq hq=>JW q ahp)) (ez h hi ahv (JW _ (Int.le_refl _))) (λa ha=>by rw[JW _ ahx];exact Int.le_refl _) (λV=>by unfold dy at V;simp at V) (λ_ _ _ _ _=>rfl) (λ_ e=>by simp at e) (λ_ e=>by simp at e)
 .rw[decide_eq_false H];exact h.upd (p':=⟨13,0,b,z⟩) hi mS tS (.inr (.inr (.inr (.inr (.inr ⟨rfl,rfl,by have a2:=a1.1;omega⟩))))) (dI h hi ahC (λq hq=>JW q ahp)) (ez h hi ahC (JW _ (Int.le_refl _))) (λa ha=>by rw[JW _ ahx];exact Int.le_refl _) (λV=>by unfold dy at V;simp at V) (λ_ _ _ _ _=>rfl) (λ_ e=>by simp at e) (λ_ e=>by simp at e)
def WsI.s9(h:WsI c n N ml x)(y:cD c n N ml)(l:NuL c N x.st.s.W)(hB:CoB c B x.st)(Kd:40<=B)(Kj:B<=1000000000000){i:Nat}(hi:i<n)(b z:Int)(hp:(⟨9,0,b,z⟩:Sp)=sv x.U i)(ht:(sv x.st.T i).pc=10):WsI c n N ml (bD c N x i):=by
 refine kB ?_;intro hn J8 hk KE oth KR bA bW bF wA wW lA lW lF fA fW HA HW HF SF eL mS lS JW tS aS;obtain⟨⟨q1,Y,q3,q4⟩,q5,q6⟩:=KE rfl rfl;have I:=gS x.st.s x.d;have hs:=svS (show i<x.U.length by rw[h.lU];exact hi)
 have nr:∀H j,dy (sv (x.U.set i ⟨H,0,b,z⟩) j)->j≠i/\dy (sv x.U j):=λH j V=>by
  rw[hs]at V;split at V;.unfold dy at V;simp at V
  .rename_i e;exact⟨e,V⟩
 have go:∀(H:Int) (d':Dr),(H=9\/H=10)->(H=9->zN c n N d' x.st.s.W (x.U.set i ⟨H,0,b,z⟩))->(H=10->∀j,j<n->j≠i->¬dy (sv x.U j))->WsI c n N ml ⟨onA x.st (aj x.st.s x.d).1,d',x.U.set i ⟨H,0,b,z⟩⟩:=λH d' JU o9 Rq=>by
  refine h.upd (p':=⟨H,0,b,z⟩) hi (li h y I) (λ_ _=>rfl) (.inr (.inr (.inr (.inr (.inl ⟨rfl,?_,ht⟩))))) (dI h hi ?_ (λq _=>by show ldW (aj _ _).1.W q=_;rw[I])) (ez h hi ?_ (by show ldW (aj _ _).1.W _=_;rw[I])) (λa _=>by show _<=ldW (aj _ _).1.W _;rw[I];exact Int.le_refl _) (λV=>by unfold dy at V;simp at V) (λj hj e h0 h9=>(KR ht j hj e h0 h9).elim) (λ_ h9=>?_) (λ_ h10=>Rq h10)
  .rcases JU with rfl|rfl
   .exact .inl rfl
   .exact .inr (.inl rfl)
  .rw[<-hp,rE ahq,rE ahq]
  .rw[<-hp];rcases JU with rfl|rfl<;>rfl
  .show zN c n N d' (aj _ _).1.W _;rw[I];exact o9 h9
 show WsI c n N ml ⟨onA x.st (aj x.st.s x.d).1,(aj x.st.s x.d).2.1,x.U.set i ⟨if (aj x.st.s x.d).2.2=true then 10 else 9,0,b,z⟩⟩;by_cases NF:x.d.second=true
 .have e1:aj x.st.s x.d=(af x.st.s (gaA x.d.at_),dR x.st.s x.d):=by unfold aj;rw[q1,NF];rfl
  have e2:(aj x.st.s x.d).2=dR x.st.s x.d:=by rw[e1]
  rw[e2];unfold dR;by_cases O:ldW x.st.s.W (gaA x.d.at_)=x.d.o
  .rw[if_neg (by simpa using O)];have hg:=h.g x.d.at_ q3;have WI:=q5 NF;have Wd:gR c n x.U x.d.at_=0:=by omega
   have Nd:∀j,j<n->dy (sv x.U j)->c.node j≠x.d.at_:=λj hj V e=>by
    have:0<gR c n x.U x.d.at_:=jB (P:=λj=>decide (c.node j=x.d.at_)&&ft (sv x.U j)) hj (by
     simp only[Bool.and_eq_true,decide_eq_true_eq]
     exact⟨e,Ep ⟨V.1,.inr (.inr V.2)⟩⟩)
    omega
   by_cases OR:x.d.at_+1=x.d.lim;.rw[if_pos OR];refine go 10 _ (.inr rfl) (λe=>by simp at e) (λ_ j hj e V=>?_);have h1:=q6 j hj V;have h2:=Nd j hj V;have h3:=J8 j hj;omega
   .rw[if_neg OR];refine go 9 _ (.inl rfl) (λ_=>⟨⟨q1,Y,by show x.d.at_+1<N;omega,q4⟩,λe=>by simp at e,λj hj V=>?_⟩) (λe=>by simp at e);exact acn
  .rw[if_pos O,if_neg (by rw[Y];decide)];exact go 9 _ (.inl rfl) (λ_=>⟨⟨q1,Y,q3,q4⟩,λe=>by simp at e,λj hj V=>q6 j hj (nr 9 j V).2⟩) (λe=>by simp at e)
 .refine ajv ?_;intro e1 e2;exact go 9 _ (.inl rfl) (λ_=>⟨⟨q1,Y,q3,q4⟩,λ_=>Int.le_refl _,λj hj V=>q6 j hj (nr 9 j V).2⟩) (λe=>by simp at e)
def WsI.step(h:WsI c n N ml x)(y:cD c n N ml)(l:NuL c N x.st.s.W)(Y:CoB c B x.st)(O:40<=B)(V:B<=1000000000000){i:Nat}(hi:i<n):WsI c n N ml (bD c N x i):=by
 have hk:=h.k i hi;obtain⟨p,I⟩:=LE (sv x.U i);rw[<-I]at hk;by_cases E':p.pc=0\/p.pc=10;.unfold bD;rw[<-I,if_pos E'];exact h
 unfold im at hk;obtain⟨pc,u,b,z⟩:=p;simp only at hk E';rcases hk with⟨q1,q2⟩|⟨rfl,q2,H⟩|⟨rfl,rfl,H⟩|⟨rfl,rfl,H⟩|⟨rfl,q2,H⟩|⟨rfl,rfl,H⟩
 .exact absurd (.inl q1) E'
 .rcases q2 with rfl|rfl|rfl|rfl|rfl|rfl
  .exact h.s1 y l Y O V hi b z I H
  .exact h.s2 y l Y O V hi b z I H
  .exact h.s3 y l Y O V hi b z I H
  .exact h.s4 y l Y O V hi b z I H
  .exact absurd (.inr rfl) E'
  .exact h.s11 y l Y O V hi b z I H
 .exact h.s5 y l Y O V hi b z I H
 .exact h.s7 y l Y O V hi b z I H
 .rcases q2 with rfl|rfl|rfl
  .exact h.s9 y l Y O V hi b z I H
  .exact absurd (.inr rfl) E'
  .exact h.s12 y l Y O V hi b z I H
 .exact h.s13 y l Y O V hi b z I H
end
end
section
open Go Go.RowKit
section
variable{c:CoC}{x:Nu}{st:Co}
def zI(h:bM c n L B o x.st)(k:kP c n N L)(hB:40<=B)(KD:B<=1000000000000){i:Nat}(hi:i<n)(p:Sp)(hf:p.a≠1->p.pc=12->1<=ldW x.st.s.W (nuFl N)):bM c n L (B+4) (o+1) (jr c N x i p).1:=by
 refine ai8 ?_;intro Ly OU J0;have Sa:∀{H},bM c n L (B+2) (o+1) H->bM c n L (B+4) (o+1) (bI c H i):=λ{H} q=>by exact abV
 have Y:∀{H},bM c n L (B+2) (o+1) H->bM c n L (B+4) (o+1) (aA H i):=λ{H} q=>by exact abW
 have V:bM c n L (B+4) (o+1) (onA x.st (aj x.st.s x.d).1):=h.on ahp ((h.bd.w.mono ahp).same (gS _ _)) (vv _ _);have PC:1<=ldW x.st.s.W (nuFl N)->bM c n L (B+2) (o+1) (onA x.st (addA x.st.s (nuFl N) (-1))):=λhq=>h.on ahp ((h.bd.w.mono ahp).st (nuFl N) (ldW x.st.s.W (nuFl N)+ -1) (by have:=(h.bd.w.ld ahp (nuFl N)).2;omega) (by rw[dX,IntWalk.i64_in _ (by have:=(h.bd.w.ld ahp (nuFl N)).2;omega)])) (ln _ _ _);unfold jr;split
 .split;.exact(OU _).mono ahp
  split;.exact abX
  split;.exact(OU _).mono ahp
  split;.exact abX
  .exact abX
 rename_i I;split;.exact Sa (Ly _)
 split;.exact abY
 split;.exact V
 split;.rename_i YH;exact Y (PC (hf I YH))
 .exact abY
def zJ(h:bM c n L B o x.st)(k:kP c n N L)(I:40<=B)(H:B<=1000000000000){i:Nat}(hi:i<n)(O:(sv x.U i).a≠1->(sv x.U i).pc=12->1<=ldW x.st.s.W (nuFl N)):bM c n L (B+4) (o+1) (bD c N x i).st:=by
 unfold bD;split;.exact h.up ahp ahp
 .exact zI h k I H hi _ O
def uq(x:Nu)(i:Nat)(r:Bool):(gr x i r).st=x.st:=by unfold gr;split<;>rfl
def WsI.f12(h:WsI c n N ml x){i:Nat}(hi:i<n):(sv x.U i).a≠1->(sv x.U i).pc=12->1<=ldW x.st.s.W (nuFl N):=λV H=>by
 have I:=h.k i hi
 have O:(sv x.U i).a=0:=by unfold im at I;omega
 apply Classical.byContradiction
 intro Y
 have hc:=h.fl
 exact h.none ahp hi ⟨O,.inr (.inr (.inr H))⟩
structure WsS(c:CoC)(n N L:Nat)(ml:Nat->Nat)(B:Int)(x:Nu):Prop where
 i:WsI c n N ml x
 ok:bM c n L B x.st.s.ops x.st
def se(c:CoC)(N:Nat)(x:Nu)(kd i:Int):Nu:=
 if okI x.U i then if kd=0 then bD c N x i.toNat else if kd=1 then gr x i.toNat false else if kd=2 then aK x i.toNat else if kd=3 then gr x i.toNat true else x else x
def WsS.act(h:WsS c n N L ml B x)(k:NuK c n N L ml)(I:40<=B)(H:B<=1000000000000)(kd i:Int):WsS c n N L ml (B+4) (se c N x kd i)/\(se c N x kd i).st.s.ops<=x.st.s.ops+1/\(kd≠0->(se c N x kd i).st.s.ops=x.st.s.ops):=by
  have same:WsS c n N L ml (B+4) x:=⟨h.i,h.ok.mono ahp⟩;unfold se;split
  . rename_i O;have hi:i.toNat<n:=(by obtain⟨V,h1⟩:=O;have:=h.i.lU;omega);split;. rename_i k0;have q:=zJ h.ok k.w I H hi (h.i.f12 hi);refine⟨⟨h.i.step k.y ⟨k.tg,by rw[h.ok.len];exact k.len⟩ h.ok.bd I H hi,⟨q.bd,q.v,q.len,Nat.le_refl _⟩⟩,q.ops,λe=>absurd k0 e⟩
    split;. have e:=uq x i.toNat false;refine⟨⟨h.i.ask hi false,by rw[e];exact same.ok⟩,by rw[e];omega,λ_=>by rw[e]⟩
    split;. have e:=kM x i.toNat;refine⟨⟨h.i.leave hi,by rw[e];exact same.ok⟩,by rw[e];omega,λ_=>by rw[e]⟩
    split;. have e:=uq x i.toNat true;refine⟨⟨h.i.ask hi true,by rw[e];exact same.ok⟩,by rw[e];omega,λ_=>by rw[e]⟩
    . exact⟨same,by omega,λ_=>rfl⟩
  . exact⟨same,by omega,λ_=>rfl⟩
end
section
variable{s:Ar}
def JR(hc:a5 P T=0)(Y:1<=kg/\kg<=5)(V:1<=kl/\kl<=5)(hp:1<=par/\par<=4)(hs:s.W=[]):WsS (eZ kg kl par bud P T (smA s (ac P).length)) T.length (ac P).length (bE kg kl par P T (smA s (ac P).length)).s.W.length (mtQ P T) 40 ⟨bE kg kl par P T (smA s (ac P).length),dr0,List.replicate T.length Sp.zero⟩/\(bE kg kl par P T (smA s (ac P).length)).s.ops<=s.ops+40:=by
  refine ajy ?_;intro hz OK mP;have hw:∀y:Int,y<=((smA s (ac P).length).W.length:Int)->ldW (bE kg kl par P T (smA s (ac P).length)).s.W y=0:=λy hy=>by exact abZ
  have h:∀i,sv (List.replicate T.length Sp.zero) i=Sp.zero:=svR _;refine⟨⟨⟨xu hc Y V hp OK,by simp,λi hi=> .inl ⟨?_,?_⟩,λa O=>?_,?_,λi hi h0 I=>?_,λi hi h0 I=>?_⟩,⟨mP.bd,mP.v,mP.len,Nat.le_refl _⟩⟩,mP.ops⟩;. show(sv (List.replicate T.length Sp.zero) i).pc=0;rw[h];rfl
  . show(sv (List.replicate T.length Sp.zero) i).pc=0;rw[h];rfl
  . have hc0:gR (eZ kg kl par bud P T (smA s (ac P).length)) T.length (List.replicate T.length Sp.zero) a=0:=(by unfold gR jd;refine List.countP_eq_zero.2 (λj _=>?_);rw[h];simp[ft,Sp.zero]);show ldW _ _=ldW _ _+((gR _ _ (List.replicate T.length Sp.zero) a:Nat):Int);rw[hc0];have g1:=eM O;have g2:=bG O;unfold nuFl at g1 g2;have hl:=hz.2;rw[hw _ ahN,hw _ ahN];rfl
  . have hc0:lR T.length (List.replicate T.length Sp.zero)=0:=(by unfold lR jd;refine List.countP_eq_zero.2 (λj _=>?_);rw[h];simp[wrC,Sp.zero]);show ldW _ _=((lR _ (List.replicate T.length Sp.zero):Nat):Int);rw[hc0];have hl:=hz.2;rw[hw _ (by rw[hl];unfold nuFl;omega)];rfl
  . have H:(sv (List.replicate T.length Sp.zero) i).pc=9:=I;rw[h]at H;simp[Sp.zero]at H
  . have H:(sv (List.replicate T.length Sp.zero) i).pc=10:=I;rw[h]at H;simp[Sp.zero]at H
end
end
section
open Go Go.RowKit
variable{c:CoC}
def kK(x:Nu)(i:Nat)(hi:i<x.U.length)(h:(sv x.U i).pc=10->(sv x.U i).a=0\/(sv x.U i).a=1):kD (sv x.U i).pc (sv (aK x i).U i).pc=decide ((sv x.U i).pc=10):=by
 unfold aK kD;split;.rename_i e;have:=h e;rw[decide_eq_true e];refine decide_eq_true (.inl ⟨.inr e,?_⟩);rw[show({x with U:=x.U.set i {sv x.U i with pc:=12-(sv x.U i).a}}:Nu).U=x.U.set i {sv x.U i with pc:=12-(sv x.U i).a} from rfl,fV hi,if_pos rfl];dsimp only;omega
 .rename_i e;rw[decide_eq_false e];exact decide_eq_false ahp
def xE:mO where
 ty:=330
 pt:=274
 md:=1
 step:=cI
 ask:=λc x i r=>cG c x i r
 ok:=NuS
def CE(hk:NuK c T.length (ac P).length L (mtQ P T)):xE.Ok c P T L where
 act:=λB x hs h1 H i hi=>by
  have hl:okI x.U (i:Int):=⟨by omega,by rw[hs.i.lU];omega⟩
  have a0:=NuS.act hs hk h1 H 0 (i:Int)
  have a1:=λr:Bool=>NuS.act hs hk h1 H (if r then 3 else 1) (i:Int)
  have a2:=NuS.act hs hk h1 H 2 (i:Int)
  unfold r9 at a0 a1 a2
  exact aco
 mono:=λB B' x h O=>⟨h.i,h.ok.mono O⟩
 lU:=λB x h=>h.i.lU
 safe:=λB x h i j hi hj h1 H V=>h.i.safe hk.y hi h1 V hj H
 link:=λB x h i hi=>by
  have:=h.i.k i hi
  unfold gV at this
  omega
 askS:=λx i r=>by
  exact acp
 cS:=λB BC w a g X q x BB i h hs O Y I hi=>by
  have C:=bM.pre (x:=X.x) (by rw[h.nT.1];exact hs.ok) ait h.co.fx O.1 O.2 Y
  have k:=EF h i hi (hs.i.k i hi) Y hk.N1 (λh9 ab=>((hs.i.dr i hi (by have:=hs.i.k i hi;unfold gV at this;show(sv x.U i).a=0;omega) h9).1.2.2.1)) C
  refine(DL I (i:Int) (R:=λr w'=>r=dB (sv x.U i) (sv (cI c (ac P).length x i).U i)/\aw 330 B BC w' a g X c P T (cI c (ac P).length x i).st (cI c (ac P).length x i).d (cI c (ac P).length x i).U/\aa (SmS a g X) w w') (k.mono ?_)).mono λ_ _ q=>q.to λ_ _ q=>q
  rintro e w' ⟨rfl,k2,t2⟩
  refine⟨_,rfl,?_,k2,t2⟩
  by_cases e:(sv x.U i).pc=0\/(sv x.U i).pc=10
  .rw[show cI c (ac P).length x i=x by unfold cI;rw[if_pos e]]
   exact acq
  .unfold dB kD
   by_cases f:(sv (cI c (ac P).length x i).U i).pc=10\/(sv (cI c (ac P).length x i).U i).pc=0
   .exact acr
   .exact acs
 cA:=λB BC w a g X q x i r h I hi=>by
  refine aj7 ?_
  intro hl
  refine(FH I (i:Int) r (R:=λb w'=>b=decide ((sv x.U i).pc=0)/\aw 330 B BC w' a g X c P T (cG c x i r).st (cG c x i r).d (cG c x i r).U/\aa (SmS a g X) w w') ((Fl h i hi r).mono ?_)).mono λ_ _ q=>q.to λ_ _ q=>q
  exact acu
 cL:=λB BC w a g X q x i h I hi ha=>by
  refine aj7 ?_
  intro hl
  refine(AR I (i:Int) (R:=λb w'=>b=decide ((sv x.U i).pc=10)/\aw 330 B BC w' a g X c P T (aK x i).st (aK x i).d (aK x i).U/\aa (SmS a g X) w w') ((BJ h i hi ha).mono ?_)).mono λ_ _ q=>q.to λ_ _ q=>q
  exact acv
 cP:=λB BC w a g X q x i h I hi=>DI I (i:Int) _ λW b=>by
  have k:=pp (h.below b) (i:Int)
  exact acw
def xF:mO where
 ty:=335
 pt:=277
 md:=2
 step:=be
 ask:=λc x i r=>cG c x i r
 ok:=RsS
def CG(hk:NuK c T.length (ac P).length L (mtQ P T)):xF.Ok c P T L where
 act:=λB x hs h1 H i hi=>by
  have hl:okI x.U (i:Int):=⟨by omega,by rw[hs.i.lU];omega⟩
  have a0:=RsS.act hs hk h1 H 0 (i:Int)
  have a1:=λr:Bool=>RsS.act hs hk h1 H (if r then 3 else 1) (i:Int)
  have a2:=RsS.act hs hk h1 H 2 (i:Int)
  unfold sd at a0 a1 a2
  exact aco
 mono:=λB B' x h O=>⟨h.i,h.ok.mono O,h.dok⟩
 lU:=λB x h=>h.i.lU
 safe:=λB x h i j hi hj h1 H V=>h.i.safe hk.y hi h1 V hj H
 link:=λB x h i hi=>by
  have:=h.i.k i hi
  unfold iO at this
  omega
 askS:=λx i r=>by
  exact acp
 cS:=λB BC w a g X q x BB i h hs O Y I hi=>by
  have C:=bM.pre (x:=X.x) (by rw[h.nT.1];exact hs.ok) ait h.co.fx O.1 O.2 Y
  have k:=EG h i hi (hs.i.k i hi) Y hk.N1 (λ_ _ I=>(hs.dok I).1) C
  refine(DM I (i:Int) (R:=λr w'=>r=dB (sv x.U i) (sv (be c (ac P).length x i).U i)/\aw 335 B BC w' a g X c P T (be c (ac P).length x i).st (be c (ac P).length x i).d (be c (ac P).length x i).U/\aa (SmS a g X) w w') (k.mono ?_)).mono λ_ _ q=>q.to λ_ _ q=>q
  rintro e w' ⟨rfl,k2,t2⟩
  refine⟨_,rfl,?_,k2,t2⟩
  by_cases e:(sv x.U i).pc=0\/(sv x.U i).pc=10
  .rw[show be c (ac P).length x i=x by unfold be;rw[if_pos e]]
   exact acq
  .unfold dB kD
   by_cases f:(sv (be c (ac P).length x i).U i).pc=10\/(sv (be c (ac P).length x i).U i).pc=0
   .exact acr
   .exact acs
 cA:=λB BC w a g X q x i r h I hi=>by
  refine aj7 ?_
  intro hl
  refine(FI I (i:Int) r (R:=λb w'=>b=decide ((sv x.U i).pc=0)/\aw 335 B BC w' a g X c P T (cG c x i r).st (cG c x i r).d (cG c x i r).U/\aa (SmS a g X) w w') ((Fm h i hi r).mono ?_)).mono λ_ _ q=>q.to λ_ _ q=>q
  exact acu
 cL:=λB BC w a g X q x i h I hi ha=>by
  refine aj7 ?_
  intro hl
  refine(AX I (i:Int) (R:=λb w'=>b=decide ((sv x.U i).pc=10)/\aw 335 B BC w' a g X c P T (aK x i).st (aK x i).d (aK x i).U/\aa (SmS a g X) w w') ((BK h i hi ha).mono ?_)).mono λ_ _ q=>q.to λ_ _ q=>q
  exact acv
 cP:=λB BC w a g X q x i h I hi=>DJ I (i:Int) _ λW b=>by
  have k:=pr (h.below b) (i:Int)
  exact acw
def xG:mO where
 ty:=337
 pt:=280
 md:=3
 step:=bD
 ask:=λc x i r=>gr x i r
 ok:=WsS
def CH(hk:NuK c T.length (ac P).length L (mtQ P T)):xG.Ok c P T L where
 act:=λB x hs h1 H i hi=>by
  have hl:okI x.U (i:Int):=⟨by omega,by rw[hs.i.lU];omega⟩
  have a0:=WsS.act hs hk h1 H 0 (i:Int)
  have a1:=λr:Bool=>WsS.act hs hk h1 H (if r then 3 else 1) (i:Int)
  have a2:=WsS.act hs hk h1 H 2 (i:Int)
  unfold se at a0 a1 a2
  exact aco
 mono:=λB B' x h O=>⟨h.i,h.ok.mono O⟩
 lU:=λB x h=>h.i.lU
 safe:=λB x h i j hi hj h1 H h3=>h.i.safe hk.y hi h1 h3 hj H
 link:=λB x h i hi=>by
  have:=h.i.k i hi
  unfold im at this
  omega
 askS:=λx i r=>by
  show(gr x i r).st.s=x.st.s
  unfold gr
  split
  .rfl
  .rfl
 cS:=λB BC w a g X q x BB i h hs O Y I hi=>by
  have C:=bM.pre (x:=X.x) (by rw[h.nT.1];exact hs.ok) ait h.co.fx O.1 O.2 Y
  have k:=EH h i hi (hs.i.k i hi) Y hk.N1 (λV h9 _=>((hs.i.dr i hi V h9).1.2.2.1)) C
  refine(DN I (i:Int) (R:=λr w'=>r=dB (sv x.U i) (sv (bD c (ac P).length x i).U i)/\aw 337 B BC w' a g X c P T (bD c (ac P).length x i).st (bD c (ac P).length x i).d (bD c (ac P).length x i).U/\aa (SmS a g X) w w') (k.mono ?_)).mono λ_ _ q=>q.to λ_ _ q=>q
  rintro e w' ⟨rfl,k2,t2⟩
  refine⟨_,rfl,?_,k2,t2⟩
  by_cases e:(sv x.U i).pc=0\/(sv x.U i).pc=10
  .rw[show bD c (ac P).length x i=x by unfold bD;rw[if_pos e]]
   exact acq
  .unfold dB kD
   by_cases f:(sv (bD c (ac P).length x i).U i).pc=10\/(sv (bD c (ac P).length x i).U i).pc=0
   .exact acr
   .exact acs
 cA:=λB BC w a g X q x i r h I hi=>by
  refine aj7 ?_
  intro hl
  refine(FJ I (i:Int) r (R:=λb w'=>b=decide ((sv x.U i).pc=0)/\aw 337 B BC w' a g X c P T (gr x i r).st (gr x i r).d (gr x i r).U/\aa (SmS a g X) w w') ((Fo h i hi r).mono ?_)).mono λ_ _ q=>q.to λ_ _ q=>q
  rintro e w' ⟨rfl,k2,t2⟩
  refine⟨_,rfl,?_,k2,t2⟩
  unfold gr
  exact acx
 cL:=λB BC w a g X q x i h I hi ha=>by
  refine aj7 ?_
  intro hl
  refine(AY I (i:Int) (R:=λb w'=>b=decide ((sv x.U i).pc=10)/\aw 337 B BC w' a g X c P T (aK x i).st (aK x i).d (aK x i).U/\aa (SmS a g X) w w') ((BL h i hi ha).mono ?_)).mono λ_ _ q=>q.to λ_ _ q=>q
  exact acv
 cP:=λB BC w a g X q x i h I hi=>DK I (i:Int) _ λW b=>by
  have k:=ps (h.below b) (i:Int)
  exact acw
end
section
open Go Go.RowKit
section
variable{s:Ar}
def Hu{m:Nat}(hk:1<=k/\k<=5)(V:1<=n/\n<=32)(hm:1<=m/\m<=4)(H:s.W=[])(hs:s.ops=0){x:Fx}(h:du w' a g k x (aF k s n m) (ba k n))(h1:w.heap.size<=x.p/\w.heap.size<=x.l/\w.heap.size<=x.q/\x.n=n/\x.m=m/\x.t=s.W.length+1):qB w a g n k (flV x.p) ⟨FW k n m,(aF k s n m,ba k n)⟩ w':=by
 intro w2 lb t MN ha hg I;obtain⟨l1,l2,l3,e1,e2,e3⟩:=h1;have k2:=h.oth t (h.ki.ar.turns t (by simp;exact λe=>ha e.symm) (by simp;exact λe=>hg e.symm)) ahu ahu ahu;have b1:=k2.p.lt;have b2:=k2.ki.lk.lt;have b3:=k2.ki.sp.lt;have b4:=k2.ki.ar.blk.lt;have b5:=k2.ki.ar.wds.lt;have Kh:∀y∈[a,g,x.q],w.heap.size<=y\/y=a\/y=g:=λy Y=>by simp at Y;omega
 have hz:WdB 40 s:=by intro v O;rw[H]at O;cases O
 have hi:=oA hk s (n:=n) (m:=m) hm.1;rw[H]at hi;refine⟨⟨x,w2.heap.size,min lb (min a g),a,g⟩,yM hk V hm,⟨hi,(nH (B:=40) hz ahp V.2).mono ahL,λp hp=>⟨wh V.2 ahL p hp,Gk k (iT k n p hp).1⟩,?_⟩,⟨k2,⟨rfl,rfl,e1,e2,by rw[e3,H];rfl⟩,⟨I,λz=>by simp at z;omega,⟨Nat.min_le_left _ _,I.lt⟩,λy Y=>by simp at Y;show min lb (min a g)<=y/\y<w2.heap.size;omega,Nat.le_refl _⟩,⟨by show min lb (min a g)<=x.p;omega,b1⟩,by show min lb (min a g)<=x.l;omega,b2⟩,Kh,Nat.le_refl _⟩;have:=kr k s n m;show(aF k s n m).ops<=0+1;omega
def zL{x:Cox}(B:Nat->Prop){i:Nat}(hi:i∈CoS a g x):i=a\/i=g\/eQ x B i:=by
 unfold CoS at hi;simp only[List.mem_cons]at hi;rcases hi with rfl|rfl|rfl|rfl|hi
 .exact .inl rfl
 .exact .inr (.inl rfl)
 .exact .inr (.inr (.inr (.inr (.inl rfl))))
 .exact .inr (.inr (.inr (.inr (.inr (.inl (.inr (.inr rfl)))))))
 .obtain⟨y,h,rfl⟩:=List.mem_map.1 hi;exact .inr (.inr (.inr (.inr (.inr (.inr (.inl ⟨y,h,.inr (.inr rfl)⟩))))))
def Ht(hc:a5 P T=0)(Li:1<=kg/\kg<=5)(Y:1<=kl/\kl<=5)(hp:1<=par/\par<=4)(hW:s.W=[])(hs:s.ops=0){x:Cox}{B:Nat->Prop}(h:aD B w' a g x (eZ kg kl par bud P T s) P T (bE kg kl par P T s))(I:∀i,eQ x B i->w.heap.size<=i/\i<w'.heap.size):qB w a g T.length 6 (Ay x.l) ⟨FV (eZ kg kl par bud P T s) P T (bE kg kl par P T s).s.W.length,bE kg kl par P T s⟩ w':=by
 intro w2 lb t MN ha hg KP;have ht:=t.size;have k2:=h.farK t (by simp;exact λe=>ha e.symm) (by simp;exact λe=>hg e.symm) (λi hi hB=>by have:=I i hB;simp at hi;omega);have b4:=k2.ar.blk.lt;have b5:=k2.ar.wds.lt
 have V:∀y∈CoS a g x,(w.heap.size<=y\/y=a\/y=g)/\y<w2.heap.size:=λy H=>by
  rcases zL B H with e|e|e
  .omega
  .omega
  .have:=I y e;omega
 have hz:WdB 40 s:=by intro v O;rw[hW]at O;cases O
 have ok:=oQ (kg:=kg) (kl:=kl) (par:=par) (bud:=bud) hc hz;rw[hs]at ok;refine⟨⟨x,B,a,g,min lb (min a g),w2.heap.size⟩,yL hc (vl (bud:=bud) hc Li Y hp) (vC hc Li Y hp),⟨xu hc Li Y hp hz,ok.mono ahq,λi e=>?_⟩,⟨k2,⟨rfl,rfl⟩,⟨KP,λz=>by have:=V _ z;omega,⟨Nat.min_le_left _ _,KP.lt⟩,λy H=>by have:=V y H;show min lb (min a g)<=y/\y<w2.heap.size;omega,Nat.le_refl _⟩,λi hi=>by have:=I i hi;show min lb (min a g)<=i/\i<w2.heap.size;omega⟩,λy H=>(V y H).1,Nat.le_refl _⟩;exfalso;have e0:sv (List.replicate T.length Sp.zero) i=Sp.zero:=rJ _ i;have e1:(sv (List.replicate T.length Sp.zero) i).pc=10:=e;rw[e0]at e1;exact absurd e1 ahr
def Hw(hc:a5 P T=0)(JX:0<=bud/\bud<=1000){x:Hx}{B:Nat->Prop}{s':Ar}(hs:s'.ops=0)(Y:x.a=a)(V:x.g=g)(h:aU B w' x (cr P T) bud s' (hm0 (cr P T)))(hB:∀i,B i->w.heap.size<=i)(hq:w.heap.size<=x.q)(SC:∀v,v<P.length->w.heap.size<=x.qb v):qB w a g T.length 7 (hmV x.l) ⟨D5 (cr P T) bud,⟨s',hm0 (cr P T)⟩⟩ w':=by
 intro w2 lb t MN ha hg I;have ht:=t.size;have hn:1<=T.length/\T.length<=32:=by have:=bi (aQ hc).1;exact⟨this.2.2.1,this.2.2.2⟩
 have hm:∀y∈mvL x (cr P T),w.heap.size<=y\/y=a\/y=g:=λy H=>by
  unfold mvL at H;simp only[List.mem_append,List.mem_cons,List.not_mem_nil,or_false,List.mem_map,List.mem_range]at H;rcases H with(rfl|rfl|rfl)|⟨v,O,rfl⟩
  .exact .inr (.inl Y)
  .exact .inr (.inr V)
  .exact .inl hq
  .exact .inl (SC v O)
 have k2:=h.turns t (λi hi YY=>by have:=hB i YY;simp at hi;omega) (λi hi Sm=>by have:=hm i Sm;simp at hi;omega);have b4:=k2.ar.blk.lt;have b5:=k2.ar.wds.lt
 have F':∀y∈mvL x (cr P T),y<w2.heap.size:=λy H=>by
  unfold mvL at H;simp only[List.mem_append,List.mem_cons,List.not_mem_nil,or_false,List.mem_map,List.mem_range]at H;rcases H with(rfl|rfl|rfl)|⟨v,O,rfl⟩
  .exact b4
  .exact b5
  .exact k2.ss.lt
  .exact(k2.rs v O).lt
 exact⟨⟨x,B,min lb (min a g),w2.heap.size⟩,yO (j4 hc) hn JX,⟨⟨_,ed.start _ _⟩,by show s'.ops<=0;omega⟩,⟨k2,⟨Y,V⟩,⟨I,λz=>by have:=hm _ z;omega,⟨Nat.min_le_left _ _,I.lt⟩,λy H=>by have:=hm y H;have:=F' y H;show min lb (min a g)<=y/\y<w2.heap.size;omega,Nat.le_refl _⟩,λi hi=>by have:=k2.bd i hi;have:=hB i hi;show min lb (min a g)<=i/\i<w2.heap.size;omega⟩,hm,Nat.le_refl _⟩
def BE{F:mO}{c:CoC}{st:Co}(hm:1<=F.md/\F.md<=3)(hc:a5 P T=0)(hF:F.Ok c P T L)(mP:F.ok c T.length (ac P).length L (mtQ P T) 40 ⟨st,dr0,List.replicate T.length Sp.zero⟩)(hs:st.s.ops<=40){q:Nat}{B BC:Nat->Prop}{X:SmX}(h:aw F.ty B BC w' a g X c P T st dr0 (List.replicate T.length Sp.zero))(H:∀i∈SmS a g X,i=a\/i=g\/w.heap.size<=i)(hq:Blk w' q 273 (rwC F X.l))(P3:w.heap.size<=q)(Px:q∉SmS a g X)(I:∀i,i<w.heap.size\/w'.heap.size<=i->¬B i/\¬eQ X.x BC i/\i≠X.l/\i≠X.gg):qB w a g T.length (10+F.md) (rwV q) ⟨FY F c P T L,⟨st,dr0,List.replicate T.length Sp.zero⟩⟩ w':=by
 intro w2 lb t MN ha hg Y;have ht:=t.size;have k2:=h.farR t (λi hi=>I i (.inl (by simp at hi;omega))) (λi hi hm=>by have:=H i hm;simp at hi;omega);have q2:=t.blk hq ahu
 have V:∀i,B i\/eQ X.x BC i\/i=X.l\/i=X.gg->min lb (min a g)<=i/\i<w2.heap.size:=λi hi=>by
  apply Classical.byContradiction;intro hn;have:=I i ahp;rcases hi with z|z|z|z
  .exact this.1 z
  .exact this.2.1 z
  .exact this.2.2.1 z
  .exact this.2.2.2 z
 have F':=k2.ltsA;exact⟨⟨B,BC,a,g,X,q,min lb (min a g),w2.heap.size⟩,yP hm hc hF,⟨by simpa using mP,by show st.s.ops<=0+1000;omega⟩,⟨k2,⟨rfl,rfl⟩,⟨Y,λz=>by have:=H _ z;omega,⟨Nat.min_le_left _ _,Y.lt⟩,λy O=>by have:=H y O;have:=F' y O;show min lb (min a g)<=y/\y<w2.heap.size;omega,Nat.le_refl _⟩,⟨q2,⟨by show min lb (min a g)<=q;omega,q2.lt⟩,Px⟩,V⟩,λy O=>by have:=H y O;omega,Nat.le_refl _⟩
end
end
section
open Go Go.RowKit
def iB(f:FuncId)(xs:Array Value)(a g n:Nat)(k:Int)(gs:Nat->Value)(ms:MS n)(w:World):Prop:=
 Calls prog f xs w λe w'=>∃l,e= returned (tuple #[pointer (some ⟨l,0,none⟩),J 0])/\qB w a g n k (gs l) ms w'/\aa [a,g] w w'
def MkL(W:World)(a g lb n:Nat)(ms:MS n)(e:Ending)(w':World):Prop:=
 e= returned (J 0)/\(∃b:ms.1.β,ms.1.Good/\ms.1.ok ms.2 0/\ms.1.is b w' a g lb ms.2/\(∀x∈ms.1.fp b,W.heap.size<=x\/x=a\/x=g)/\min lb (min a g)<=ms.1.bt b)/\aa [a,g,lb] W w'
def F0{H w5:World}{l:Nat}{k:Int}{Y:MS n}(I:Below W.heap.size W H)(hl:Blk H lb 110 #[J k,J n,.nilIface])(Q8:lb<W.heap.size)(O:lb≠a/\lb≠g)(h:qB H a g n k (gs l) Y w5)(t:aa [a,g] H w5):MkL W a g lb n Y (returned (J 0)) (w5.setCell ⟨lb,2,none⟩ (gs l)):=by have hs:=I.size;have h5:=t.blk hl (by simp;exact O);obtain⟨b,h1,h2,h3,V⟩:=h (w5.setCell ⟨lb,2,none⟩ (gs l)) lb ((aa.refl _ _).setCell (.inl ahq) _) ahp O.1 O.2 (h5.set_ 2 _);exact⟨rfl,⟨b,h1,h2,h3,⟨λx hx=>by have:=V.1 x hx;omega,V.2⟩⟩,((aa.of_below (S:=[a,g,lb]) I).trans (t.mono (by intro i hi;simp at hi ⊢;rcases hi with rfl|rfl<;>simp))).setCell (.inl ahq) _⟩
section
variable{gl lo pa bu:Nat}
inductive MkP(a:Nat)(vP vT:Value)(gl lo pa bu:Nat):Int->FuncId->Array Value->(Nat->Value)->Prop
 |co:MkP a vP vT gl lo pa bu 6 103 #[↑a,agg #[vP,vT],agg #[int i64 gl,int i64 lo,int i64 pa,int i64 bu]] Ay
 |hm:MkP a vP vT gl lo pa bu 7 104 #[↑a,agg #[vP,vT],int i64 bu] hmV
 |hc:MkP a vP vT gl lo pa bu 8 105 #[↑a,agg #[vP,vT],int i64 bu] hcV
 |cn:MkP a vP vT gl lo pa bu 9 106 #[↑a,agg #[vP,vT],int i64 bu] cnV
 |ma:MkP a vP vT gl lo pa bu 10 107 #[↑a,agg #[vP,vT],int i64 bu] maV
inductive MkR(a n:Nat)(vP vT:Value)(gl lo pa bu k:Nat):FuncId->Array Value->(Nat->Value)->Prop
 |fl (h:1<=k/\k<=5):MkR a n vP vT gl lo pa bu k 109 #[↑a,int i64 k,int i64 n,int i64 pa] flV
 |rw (h:11<=k/\k<=13):MkR a n vP vT gl lo pa bu k 108 #[↑a,int i64 ((k:Int)-10),agg #[vP,vT],agg #[int i64 gl,int i64 lo,int i64 pa,int i64 bu]] rwV
def E3(h:Q:=by
    have NZ:=t5.blk H0.o.2.1 (by simp;exact hn)
    have q2:=NZ.free 2
    have q2c:=NZ.cell 2
    have HF:=qh (F0 H0.o.1 H0.o.2.1 H0.o.2.2 hn hin t5)
    simp only[Ay,hmV,hcV,cnV,maV,flV,rwV]at HF
    clear hin t5 NZ
    go_wp2
    go_ret
    exact HF.o):Q:=h
variable{ms:MS n}{f:FuncId}{xs:Array Value}
def tz{k:Int}(K:MkP a vP vT gl lo pa bu k f xs gs)(O:Blk W lb 110 #[J k,J n,.nilIface])(hn:lb≠a/\lb≠g)(V:∀W2,Below W.heap.size W W2->iB f xs a g n k gs ms W2):E 56 #[↑lb,↑a,agg #[vP,vT],agg #[J gl,J lo,J pa,J bu]] W (MkL W a g lb n ms):=by
  have H:=((Below.refl W.heap.size W).alloc (Nat.le_refl _) (cells #[vP,vT] 24)).alloc ahq (cells #[J gl,J lo,J pa,J bu] 36);have I:=O.below H O.lt;have c0:=I.cell 0;have c1:=I.cell 1;have Q8:=O.lt;have Y:=qh (V _ H);unfold iB at Y;have H0:=qh (And.intro H (And.intro I Q8));have PA:((W.alloc (cells #[vP,vT] 24)).alloc (cells #[J gl,J lo,J pa,J bu] 36)).heap.size=W.heap.size+2:=by simp
  clear H I O V;cases K;all_goals go_enter func56,ntmps56;go_wp2_with fail;refine Y.o.mono ?_;rintro en w5 ⟨l,rfl,hin,t5⟩;exact E3
def xv(K:MkR a n vP vT gl lo pa bu k f xs gs)(I:Blk W lb 110 #[J k,J n,.nilIface])(hn:lb≠a/\lb≠g)(Lz:a<W.heap.size/\g<W.heap.size)(HN:∀W2,Below W.heap.size W W2->iB f xs a g n k gs ms W2):E 56 #[↑lb,↑a,agg #[vP,vT],agg #[J gl,J lo,J pa,J bu]] W (MkL W a g lb n ms):=by
  obtain⟨wz,O⟩:=LE ((W.alloc (cells #[vP,vT] 24)).alloc (cells #[J gl,J lo,J pa,J bu] 36));have JX:Below W.heap.size W wz:=by rw[O];exact((Below.refl W.heap.size W).alloc (Nat.le_refl _) _).alloc ahq _
  have Kg:Below W.heap.size W wz.drew:=JX.drew;have KO:=I.below JX I.lt;have k1:Blk wz W.heap.size 24 #[vP,vT]:=by rw[O];exact(Blk.new W _ _).alloc _
  have k2:Blk wz (W.heap.size+1) 36 #[J gl,J lo,J pa,J bu]:=by rw[O];exact Blk.new' _ _ _ ahq
  have V:lb∉[a,g]:=by simp;exact hn
  have Y:W.heap.size∉[a,g]:=by simp;omega
  have Pu:W.heap.size+1∉[a,g]:=by simp;omega
  have HC:=qh (λgs (h:aa [a,g] wz gs)=>And.intro ((h.blk KO V).cell 0) (And.intro ((h.blk KO V).cell 1) (And.intro ((h.blk k1 Y).cell 0) (And.intro ((h.blk k1 Y).cell 1) (And.intro ((h.blk k2 Pu).cell 0) (And.intro ((h.blk k2 Pu).cell 1) (And.intro ((h.blk k2 Pu).cell 2) ((h.blk k2 Pu).cell 3))))))));have Q8:=I.lt;have OC:=qh (HN _ Kg);unfold iB at OC;have H0:=qh (And.intro Kg (And.intro (I.below Kg I.lt) Q8));have HD:=qh (show aa [a,g] wz wz.drew from(aa.refl _ _).drew);have HR:=qh (show aa [a,g] wz wz from aa.refl _ _);have HZ:=qh O;have J7:W.heap.size<wz.heap.size:=k1.lt;clear JX Kg KO I HN k1 k2 O;have H:(1<=k/\k<=5)\/k=11\/k=12\/k=13:=by cases K<;>omega
  have ne:∀z:Int,(6<=z/\z<=10)\/(k:Int)≠z->((k:Int)==z)=false:=λz h=>by simp;omega
  have n6:=ne 6 ahp;have n7:=ne 7 ahp;have n8:=ne 8 ahp;have n9:=ne 9 ahp;have ax:=ne 10 ahp;have w1:IntKind.i64.wrap ((k:Int)-11)=k-11:=IntWalk.i64_in _ ahp;have w2:IntKind.i64.wrap ((k:Int)-11+1)=k-10:=by rw[IntWalk.i64_in _ ahp];omega
  cases K
  all_goals
    rcases H with H|H|H|H
    all_goals try omega
    all_goals
      first|have ab:((k:Int)==11)=true:=by simp;omega|have ab:=ne 11 ahp
      first|have ad:((k:Int)==12)=true:=by simp;omega|have ad:=ne 12 ahp
      first|have al:((k:Int)==13)=true:=by simp;omega|have al:=ne 13 ahp
      clear ne H;go_enter func56,ntmps56;go_upto_region 2 with fail;rw[<-HZ.o];obtain⟨q0,q1,q2⟩:=HC.o _ HR.o;go_wp2_with fail
      go_region_held3 (λgs=>gs.cell? lb=some (J k)/\Z gs lb 1 (J n)/\gs.cell? W.heap.size=some vP/\Z gs W.heap.size 1 vT/\Z gs (W.heap.size+1) 0 (J gl)/\Z gs (W.heap.size+1) 1 (J lo)/\Z gs (W.heap.size+1) 2 (J pa)/\Z gs (W.heap.size+1) 3 (J bu))
        (first|exact HC.o _ HR.o|exact HC.o _ HD.o|exact HC.o _ H6.o)
        (first
          | (go_at_call 108;go_loud (refine OC.o.mono ?_);rintro en w5 ⟨l,rfl,hin,t5⟩;have H6:=qh (HD.o.trans t5))
          | (go_at_call 109;go_loud (refine OC.o.mono ?_);rintro en w5 ⟨l,rfl,hin,t5⟩;have H6:=qh (HD.o.trans t5)))
      exact E3
end
end
section
open Go Go.RowKit
def F1(P T:List Int)(k pa:Nat):MS T.length:=⟨FW k T.length pa,(aF k (dP 4096) T.length pa,ba k T.length)⟩
def Io(P T:List Int)(gl lo pa bu:Nat):MS T.length:=⟨FV (eZ gl lo pa bu P T (dP 4096)) P T (bE gl lo pa P T (dP 4096)).s.W.length,bE gl lo pa P T (dP 4096)⟩
def Iq(P T:List Int)(room:Nat)(bu:Nat):MS T.length:=⟨D5 (cr P T) bu,⟨⟨dw (hm0 (cr P T)).W P.length,room,0,0,0,false⟩,hm0 (cr P T)⟩⟩
def Ip(P T:List Int)(bu:Nat):MS T.length:=⟨FX bu P T,hc0 (dP 4096) (ac P).length T.length⟩
def In(P T:List Int)(bu:Nat):MS T.length:=⟨BN bu (ao P T T.length) T.length,cn0 (dP 4096) T.length⟩
def Ir(P T:List Int)(bu:Nat):MS T.length:=⟨BO T.length bu,ma0 (dP 4096) T.length⟩
def yW(F:mO)(P T:List Int)(gl lo pa bu:Nat):MS T.length:=⟨FY F (eZ gl lo pa bu P T (smA (dP 4096) (ac P).length)) P T (bE gl lo pa P T (smA (dP 4096) (ac P).length)).s.W.length,⟨bE gl lo pa P T (smA (dP 4096) (ac P).length),dr0,List.replicate T.length Sp.zero⟩⟩
def yV(P T:List Int)(gl lo pa bu k:Nat):MS T.length:=
 if k<=5 then F1 P T k pa else if k=6 then Io P T gl lo pa bu else if k=7 then Iq P T 4096 bu else if k=8 then Ip P T bu else if k=9 then In P T bu else if k=10 then Ir P T bu else if k=11 then yW xE P T gl lo pa bu else if k=12 then yW xF P T gl lo pa bu else yW xG P T gl lo pa bu
structure fk(w:World)(a g:Nat)(vP vT:Value)(P T:List Int)(gl lo pa bu:Nat):Prop where
 ar:aB w a g (dP 4096)
 rP:RdL w vP 1 encI P
 rT:RdL w vT 1 encI T
 Pa:∀i,vP.ownBlock=some i->i≠a/\i<w.heap.size
 Ta:∀i,vT.ownBlock=some i->i≠a/\i<w.heap.size
 ck:a5 P T=0
 gl:1<=gl/\gl<=5
 lo:1<=lo/\lo<=5
 pa:1<=pa/\pa<=4
 bu:bu<=3
section
variable{gl lo pa bu:Nat}
def fk.below(h:fk w a g vP vT P T gl lo pa bu)(b:Below w.heap.size w w'):fk w' a g vP vT P T gl lo pa bu:=
 {h with ar:=h.ar.turns (S:=[]) (aa.of_below b) ahq ahq,rP:=h.rP.below b (Nat.le_refl _),rT:=h.rT.below b (Nat.le_refl _),Pa:=λi hi=>⟨(h.Pa i hi).1,Nat.lt_of_lt_of_le (h.Pa i hi).2 b.size⟩,Ta:=λi hi=>⟨(h.Ta i hi).1,Nat.lt_of_lt_of_le (h.Ta i hi).2 b.size⟩}
def fk.n32(h:fk w a g vP vT P T gl lo pa bu):1<=T.length/\T.length<=32:=by have:=bi (aQ h.ck).1;exact⟨this.2.2.1,this.2.2.2⟩
def ID(h:fk w a g vP vT P T gl lo pa bu):iB 103 #[↑a,agg #[vP,vT],agg #[J gl,J lo,J pa,J bu]] a g T.length 6 Ay (Io P T gl lo pa bu) w:=by refine(n4 h.ar vP vT P T h.rP h.rT h.ck gl lo (KOk.of h.gl) (KOk.of h.lo) pa h.pa (bu:Int) ahG (by show 0+2500<=4096;omega) (by show 0<=100;omega) (by show 0+100<=1000000000000;omega)).mono ?_;rintro e w' ⟨x,B,rfl,k,I,t⟩;exact⟨x.l,rfl,Ht h.ck h.gl h.lo h.pa rfl rfl k I,t⟩
def IG(h:fk w a g vP vT P T gl lo pa bu):iB 104 #[↑a,agg #[vP,vT],J bu] a g T.length 7 hmV (Iq P T 4096 bu) w:=by have H:=h.rP;have O:=h.Pa;obtain⟨I,cP,e3,_⟩:=id H;subst e3;refine(Iu h.ar rfl h.ar.ne I cP vT P T H O h.rT h.ck (bu:Int) ahp ahG ⟨rfl,Gq h.ck⟩).mono ?_;rintro e w' ⟨B,x,s',ha,hg,rfl,k,hs,Y,hq,V,t⟩;subst hs;exact⟨x.l,rfl,Hw h.ck ahG rfl ha hg k Y hq V,t.mono ahq⟩
def IF(h:fk w a g vP vT P T gl lo pa bu):iB 105 #[↑a,agg #[vP,vT],J bu] a g T.length 8 hcV (Ip P T bu) w:=by refine(F9 h.ar rfl h.ar.ne vP vT P T h.rP h.rT h.ck (bu:Int) ahp ahG rfl).mono ?_;rintro e w' ⟨l,q,b,u,l0,V,rfl,k,h1,H,Y,I,t,O⟩;exact⟨l,rfl,Hv h.ck ahG rfl k h1 H I O,t.mono ahq⟩
def IC(h:fk w a g vP vT P T gl lo pa bu):iB 106 #[↑a,agg #[vP,vT],J bu] a g T.length 9 cnV (In P T bu) w:=by refine(F8 h.ar rfl h.ar.ne vP vT P T h.rP h.rT h.ck (bu:Int) ahp ahG rfl).mono ?_;rintro e w' ⟨c,cap,Y,hg,rfl,k,h1,I,O,t,V⟩;have H:(ao P T T.length).length=T.length:=cW (Nat.le_refl _);have:=Hs (w:=w) (a:=a) (g:=g) (ao P T T.length) (s:=dP 4096) rfl (by rw[H];exact k) ⟨Y,hg⟩ h1 I O V;rw[H]at this;exact⟨c.l,rfl,this,t.mono ahq⟩
def IH(h:fk w a g vP vT P T gl lo pa bu):iB 107 #[↑a,agg #[vP,vT],J bu] a g T.length 10 maV (Ir P T bu) w:=by refine(Jz h.ar rfl h.ar.ne vP vT P T h.rP h.rT h.ck (bu:Int) ahp ahG rfl).mono ?_;rintro e w' ⟨c,rfl,k,hc,h1,H,I,t⟩;exact⟨c.l,rfl,Hy h.n32 rfl k hc h1 H I,t.mono ahq⟩
def IE(h:fk w a g vP vT P T gl lo pa bu)(k:Nat)(H:1<=k/\k<=5):iB 109 #[↑a,J k,J T.length,J pa] a g T.length k flV (F1 P T k pa) w:=by refine(Bh h.ar k (KOk.of H) T.length h.n32.1 h.n32.2 pa h.pa.1 h.pa.2 (by have:=jX (k:=k) h.n32.2 h.pa.2;show 0+_<=4096;omega) (by show 0+1<=1000000000000;omega)).mono ?_;rintro e w' ⟨x,rfl,k1,h1,t⟩;exact⟨x.p,rfl,Hu H h.n32 h.pa rfl rfl k1 h1,t⟩
def fk.hN(h:fk w a g vP vT P T gl lo pa bu):1<=(ac P).length:=by have h1:=eH h.ck (i:=0) (by have:=h.n32;omega);omega
def II(h:fk w a g vP vT P T gl lo pa bu):iB 108 #[↑a,J 1,agg #[vP,vT],agg #[J gl,J lo,J pa,J bu]] a g T.length 11 rwV (yW xE P T gl lo pa bu) w:=by refine(Gr .n h.ar rfl h.ar.ne vP vT P T h.rP h.rT h.Pa h.Ta h.ck gl lo (KOk.of h.gl) (KOk.of h.lo) pa h.pa (bu:Int) ahG rfl (by show 0<=1000;omega)).mono ?_;rintro e w' ⟨q,B,BC,X,rfl,k,H,t,Y,O,V,I⟩;have hs:=JB (bud:=(bu:Int)) (s:=dP 4096) h.ck h.gl h.lo h.pa rfl;exact⟨q,rfl,BE (F:=xE) ahr h.ck (CE (Gg h.ck h.gl h.lo h.pa rfl h.hN)) hs.1 hs.2 k H Y O V I,t⟩
def IJ(h:fk w a g vP vT P T gl lo pa bu):iB 108 #[↑a,J 2,agg #[vP,vT],agg #[J gl,J lo,J pa,J bu]] a g T.length 12 rwV (yW xF P T gl lo pa bu) w:=by refine(Gr .r h.ar rfl h.ar.ne vP vT P T h.rP h.rT h.Pa h.Ta h.ck gl lo (KOk.of h.gl) (KOk.of h.lo) pa h.pa (bu:Int) ahG rfl (by show 0<=1000;omega)).mono ?_;rintro e w' ⟨q,B,BC,X,rfl,k,H,t,Y,O,V,I⟩;have hs:=JH (bud:=(bu:Int)) (s:=dP 4096) h.ck h.gl h.lo h.pa rfl;exact⟨q,rfl,BE (F:=xF) ahr h.ck (CG (Gg h.ck h.gl h.lo h.pa rfl h.hN)) hs.1 hs.2 k H Y O V I,t⟩
def IK(h:fk w a g vP vT P T gl lo pa bu):iB 108 #[↑a,J 3,agg #[vP,vT],agg #[J gl,J lo,J pa,J bu]] a g T.length 13 rwV (yW xG P T gl lo pa bu) w:=by refine(Gr .w h.ar rfl h.ar.ne vP vT P T h.rP h.rT h.Pa h.Ta h.ck gl lo (KOk.of h.gl) (KOk.of h.lo) pa h.pa (bu:Int) ahG rfl (by show 0<=1000;omega)).mono ?_;rintro e w' ⟨q,B,BC,X,rfl,k,H,t,Y,O,V,I⟩;have hs:=JR (bud:=(bu:Int)) (s:=dP 4096) h.ck h.gl h.lo h.pa rfl;exact⟨q,rfl,BE (F:=xG) ahr h.ck (CH (Gg h.ck h.gl h.lo h.pa rfl h.hN)) hs.1 hs.2 k H Y O V I,t⟩
end
end
section
open Go Go.RowKit
variable{gl lo pa bu cT:Nat}{AT:Option Addr}
def Gc:∀k,1<=k/\k<=13->¬(nmB k).toList=[]:=by
 intro k H;have:(List.range 13).all (λk=>!(nmB (k+1)).toList.isEmpty)=true:=by decide+kernel
 have h:=List.all_eq_true.1 this (k-1) (List.mem_range.2 ahp);rw[show k-1+1=k by omega]at h;simpa using h
def It(w:World)(k:Nat)(H:1<=k/\k<=13):E 43 #[J k] w λe w'=>∃b:ByteArray,e= returned (.string b)/\¬b.toList=[]/\Below w.heap.size w w':=
 (tN w k).mono λ_ _ h=>⟨_,h.1,Gc k H,h.2⟩
def Eb(h:fk W a g vP vT P T gl lo pa bu)(hk:1<=k/\k<=13)(H:Blk W lb 110 #[J k,J T.length,.nilIface])(I:lb≠a/\lb≠g):E 56 #[↑lb,↑a,agg #[vP,vT],agg #[J gl,J lo,J pa,J bu]] W (MkL W a g lb T.length (yV P T gl lo pa bu k)):=by
  have V:=And.intro h.ar.blk.lt h.ar.wds.lt;by_cases Y:k<=5;. rw[show yV P T gl lo pa bu k=F1 P T k pa from if_pos Y];exact xv (.fl ⟨hk.1,Y⟩) H I V λO b=>IE (h.below b) k ⟨hk.1,Y⟩
  have hc:k=6\/k=7\/k=8\/k=9\/k=10\/k=11\/k=12\/k=13:=by omega
  rcases hc with rfl|rfl|rfl|rfl|rfl|rfl|rfl|rfl
  . exact tz .co H I λO b=>ID (h.below b)
  . exact tz .hm H I λO b=>IG (h.below b)
  . exact tz .hc H I λO b=>IF (h.below b)
  . exact tz .cn H I λO b=>IC (h.below b)
  . exact tz .ma H I λO b=>IH (h.below b)
  . exact xv (.rw ahp) H I V λO b=>II (h.below b)
  . exact xv (.rw ahp) H I V λO b=>IJ (h.below b)
  . exact xv (.rw ahp) H I V λO b=>IK (h.below b)
def Ga(Ns:a<W.heap.size)(Ol:g<W.heap.size)(hP:RdL W vP 1 encI P)(hT:RdL W (.slice AT T.length cT) 1 encI T)(Pq:a5 P T=0)(hk:1<=k/\k<=13){ms:MS T.length}(U0:∀gs lb,Below W.heap.size W gs->Blk gs lb 110 #[J k,J T.length,.nilIface]->lb≠a/\lb≠g->E 56 #[pointer (some ⟨lb,0,none⟩),↑a,agg #[vP,.slice AT T.length cT],agg #[J gl,J lo,J pa,J bu]] gs (MkL gs a g lb T.length ms)):E 13 #[↑a,agg #[vP,.slice AT T.length cT],agg #[J k,J gl,J lo,J pa,J bu]] W (uv W a g T.length ms):=by
  refine ai5 ?_;intro JX w0 J1;rw[<-J1]at JX;refine ajk ?_;intro PA k1 k2
  have I:=qh (λgs (h:Below w0.heap.size w0 gs)=>show gs.cell? W.heap.size=some vP/\Z gs W.heap.size 1 (.slice AT T.length cT)/\Z gs (W.heap.size+1) 0 (J k)/\Z gs (W.heap.size+1) 1 (J gl)/\Z gs (W.heap.size+1) 2 (J lo)/\Z gs (W.heap.size+1) 3 (J pa)/\gs.cell? ⟨W.heap.size+1,4,none⟩=some (J bu)from
    ⟨(k1.below h k1.lt).cell 0,(k1.below h k1.lt).cell 1,(k2.below h k2.lt).cell 0,(k2.below h k2.lt).cell 1,(k2.below h k2.lt).cell 2,(k2.below h k2.lt).cell 3,(k2.below h k2.lt).cell 4⟩)
  have KM:=qh (λgs (h:Below w0.heap.size w0 gs)=>ke gs vP (.slice AT T.length cT) P T ((hP.below JX (Nat.le_refl _)).below h (Nat.le_refl _)) ((hT.below JX (Nat.le_refl _)).below h (Nat.le_refl _)));rw[Pq]at KM;have XU:=qh (λgs lb (h:Below w0.heap.size w0 gs) (hl:Blk gs lb 110 #[J k,J T.length,.nilIface]) (hn:w0.heap.size<=lb)=>U0 gs lb (JX.trans (h.mono JX.size)) hl ⟨by omega,by omega⟩);have XX:=qh (λgs=>It gs k hk);have Y:=qh JX;have LI:=qh J1;clear hP hT Pq U0 JX J1 k1 k2;go_enter func13,ntmps13;go_wp2_with fail;rw[<-LI.o];obtain⟨-,-,c0,-,-,-,-⟩:=I.o w0 (Below.refl _ _);go_wp2_with fail;refine(XX.o _).mono ?_;rintro en w1 ⟨H,rfl,E',b1⟩;have Ss:H.toList.isEmpty=false:=by simpa using E'
  obtain⟨c0,c1,c2,c3,c4,c5,c6⟩:=I.o w1 b1;have B1:=qh b1;clear b1;go_wp2_with fail;refine Pi (KM.o _ B1.o) λw2 b2=>?_;have O:=qh (B1.o.trans (b2.o.mono B1.o.size));clear c0 c1 c2 c3 c4 c5 c6;obtain⟨c0,c1,c2,c3,c4,c5,c6⟩:=I.o w2 O.o;have JY:=O.o.size;have b3:=(Below.refl w2.heap.size w2).alloc (Nat.le_refl _) (cells #[J k,J T.length,.nilIface] 110);have V:=qh (O.o.trans (b3.mono JY));clear b3;have HM:=qh (XU.o _ w2.heap.size V.o (Blk.new w2 110 #[J k,J T.length,.nilIface]) JY);obtain⟨d0,d1,d2,d3,d4,d5,d6⟩:=I.o _ V.o;have ab:W.heap.size<w2.heap.size:=by omega
  have Lg:W.heap.size+1<w2.heap.size:=by omega
  go_wp2_with fail;refine Pi HM.o λw4 HF=>?_;go_wp2;go_ret2;obtain⟨⟨b,m1,m2,m3,m4,m5⟩,t4⟩:=HF.o;refine⟨b,w2.heap.size,rfl,m1,m2,m3,λx hx=>?_,by omega,?_⟩;. have:=m4 x hx;have e2:(w2.alloc (cells #[J k,J T.length,.nilIface] 110)).heap.size=w2.heap.size+1:=(by simp);rw[e2]at this;omega
  . have t:=(aa.of_below (S:=[a,g,w2.heap.size]) (Y.o.trans (V.o.mono Y.o.size))).trans t4;exact t.fresh (λi hi=>by simp at hi ⊢;rcases hi with rfl|rfl|rfl<;>first|(left;left;rfl)|(left;right;rfl)|(right;omega))
def Iv(H:fk W a g vP (.slice AT T.length cT) P T gl lo pa bu)(I:1<=k/\k<=13):E 13 #[↑a,agg #[vP,.slice AT T.length cT],agg #[J k,J gl,J lo,J pa,J bu]] W (uv W a g T.length (yV P T gl lo pa bu k)):=
  Ga H.ar.blk.lt H.ar.wds.lt H.rP H.rT H.ck I λ_ _ h O V=>Eb (H.below h) I O V
end
section
open Go Go.RowKit
def rW.len{dl:Int}{st:Hc}(h:rW dl P T st N):T.length<=st.S.length:=by obtain⟨G,h⟩:=h.1;exact Nat.le_of_eq h.iv.sl.symm
end
section
open Go Go.RowKit
def Is{gl lo pa bu:Nat}(h:1<=k/\k<=13):(yV P T gl lo pa bu k).1.rd=decide (11<=(k:Int)/\(k:Int)<=13):=by
 have:k=1\/k=2\/k=3\/k=4\/k=5\/k=6\/k=7\/k=8\/k=9\/k=10\/k=11\/k=12\/k=13:=by omega
 rcases this with rfl|rfl|rfl|rfl|rfl|rfl|rfl|rfl|rfl|rfl|rfl|rfl|rfl<;>rfl
def Cj:zR yV:=by
 intro W vP AT cT P T k gl lo pa bu h H hc I V O Y Y';have hn:=(bi (aQ hc).1);refine Iz h H hc (Is I) λgs a g b hA ha hg=>Iv ⟨hA,h.below b (Nat.le_refl _),H.below b (Nat.le_refl _),λi hi=>?_,λi hi=>?_,hc,V,O,Y,Y'⟩ I;.have:=gY h ahp hi;have:=b.size;omega
 .have:=gY H ahp hi;have:=b.size;omega
end
section
open Go Go.RowKit
abbrev P41:List Int:=[-1,0,0]
abbrev T41:List Int:=[1,2]
abbrev gz:MS T41.length:=yV P41 T41 2 2 1 0 12
abbrev zc:List Pl4:=[⟨0,0,1,true⟩,⟨1,1,1,true⟩]
abbrev vJ:List Int:=[0,1,0,1,0,1,1,0,1,0,1,9]
abbrev uO:List Ev:=[⟨1,0,true,0⟩,⟨0,1,false,0⟩,⟨0,0,true,0⟩,⟨1,1,true,0⟩,⟨2,0,true,1⟩,⟨0,1,true,0⟩,⟨2,1,true,1⟩,⟨3,0,true,0⟩,⟨0,1,true,0⟩,⟨4,0,true,0⟩,⟨3,1,true,0⟩,⟨0,0,false,0⟩]
def Gv:gz.1.σ:=(gz.1.runB zc (gz.2,λ_=>⟨-1,0,0⟩) vJ 12).1
def st42:gz.1.σ:=gz.1.runA Gv [(0,4),(1,7)] 2
def Dp:a5 P41 T41=0:=by decide+kernel
def IO:gz.1.runE zc (gz.2,λ_=>⟨-1,0,0⟩) vJ=uO:=by decide+kernel
def G2:gz.1.evs Gv [(0,4),(1,7)]=[⟨5,0,false,0⟩,⟨5,1,true,0⟩]:=by decide+kernel
def oy:gz.1.stt st42 1=3/\gz.1.rds st42 1=true/\(gz.1.ar st42).ops=5/\(gz.1.ar st42).k=5/\(gz.1.ar st42).at_=2/\(gz.1.ar st42).wr=true/\ao P41 T41 2=[0,1]:=by decide+kernel
end
section
open Go Go.RowKit
def Cu(w:World)(t:TypeId)(l:List Int)(hg:Blk w g t cs)(hc:cs=(l.map (Value.int .i64)).toArray)(h:l.length<=1000):RdL w (slice (some ⟨g,0,none⟩) l.length l.length) 1 encI l:=by
 subst hc;refine⟨some ⟨g,0,none⟩,l.length,rfl,Nat.le_refl _,by omega,λ_=>⟨g,0,rfl,hg.lt,λi x I j u H=>?_⟩⟩;rw[hg.cell];match j,H with
 |0,H=>
  obtain rfl:Value.int .i64 x=u:=by simpa[encI]using H
  simp[List.getElem?_map,I]
 |k+1,H=>simp[encI]at H
section
variable{M:LkM n}{b:M.β}{st:M.σ}
end
def Iw(W:World)(vA V Y:Value)(k:Int)(O:tM k=⟨#[]⟩)(gl lo pa bu:Int):E 13 #[vA,agg #[V,Y],agg #[J k,J gl,J lo,J pa,J bu]] W λe w'=>e= returned (tuple #[.pointer none,J 7])/\Below W.heap.size W w':=by have I:=((Below.refl W.heap.size W).alloc (Nat.le_refl _) (cells #[V,Y] 24)).alloc ahq (cells #[J k,J gl,J lo,J pa,J bu] 38);have H:=qh (λgs=>tN gs k);rw[O]at H;have h:=qh I;clear I O;go_enter func13,ntmps13;go_wp2_with fail;refine Pi (H.o _) λw1 b1=>?_;have B1:=qh (h.o.trans (b1.o.mono h.o.size));go_wp2;go_ret2;exact⟨rfl,B1.o⟩
end
section
open Go Go.RowKit
section
variable{M:LkM n}{X:WoB M}{st:M.σ}
def Ib(G:M.Good)(h:bj X w st):E 62 #[lkP X.wb] w λe w'=>e= returned (agg #[J (M.ar st).k,J (M.ar st).at_,bool (M.ar st).wr])/\Below w.heap.size w w':=by
 have b0:=(Below.refl w.heap.size w).alloc (Nat.le_refl _) (cells #[J 0,J 0,bool false] 104);have k0:=Blk.new w 104 #[J 0,J 0,bool false];have Y:=qh (Ia (G.ais _ _ _ _ _ _ (h.below G b0).is));have I:=qh (And.intro b0 k0);have c2:=(h.below G b0).wd.cell 0;have F':=h.wd.lt;unfold lkP at *;obtain⟨z0,O⟩:=LE ((M.ar st).k);obtain⟨z1,h1⟩:=LE ((M.ar st).at_);obtain⟨z2,V⟩:=LE ((M.ar st).wr);rw[<-O,<-h1,<-V]at Y;rw[<-O,<-h1,<-V];clear h b0 k0 O h1 V;go_enter func62,ntmps62;go_wp2_with fail;refine Pi Y.o λw2 b2=>?_;have h1:w.heap.size<w2.heap.size:=by have:=b2.o.size;simp at this;omega
 have H:=qh (And.intro (I.o.2.below b2.o ahq) (I.o.1.trans (b2.o.mono I.o.1.size)));have e0:=H.o.1.free 0;have e1:=H.o.1.free 1;have e2:=H.o.1.free 2;have d0:=H.o.1.cell 0;have d1:=H.o.1.cell 1;have d2:=H.o.1.cell 2;go_wp2;exact bodyPost_ret (results_cell_row aht _ _ w.heap.size 104 _ (0,0) _ aht (((H.o.1.set_ 0 _).set_ 1 _).set_ 2 _) Tryz.underlying104 rfl ahs) rfl ⟨rfl,((H.o.2.setCell (Nat.le_refl _) _).setCell (Nat.le_refl _) _).setCell (Nat.le_refl _) _⟩
def Ek(W:World)(I O:Value):E 20 #[agg #[I,O],agg #[J 0,J 0,J 0,J 0,J 0]] W λe w'=>e= returned (tuple #[.pointer none,J 7])/\Below W.heap.size W w':=by
 have V:=((Below.refl W.heap.size W).alloc (Nat.le_refl _) (cells #[I,O] 24)).alloc ahq (cells #[J 0,J 0,J 0,J 0,J 0] 38);obtain⟨w0,H⟩:=LE ((W.alloc (cells #[I,O] 24)).alloc (cells #[J 0,J 0,J 0,J 0,J 0] 38));rw[<-H]at V;have k1:Blk w0 W.heap.size 24 #[I,O]:=by rw[H];exact(Blk.new W _ _).alloc _
 have k2:Blk w0 (W.heap.size+1) 38 #[J 0,J 0,J 0,J 0,J 0]:=by rw[H];exact Blk.new' _ _ _ ahq
 have HC:=qh (λgs (h:Below w0.heap.size w0 gs)=>show gs.cell? W.heap.size=some I/\Z gs W.heap.size 1 O/\Z gs (W.heap.size+1) 0 (J 0)/\Z gs (W.heap.size+1) 1 (J 0)/\Z gs (W.heap.size+1) 2 (J 0)/\Z gs (W.heap.size+1) 3 (J 0)/\gs.cell? ⟨W.heap.size+1,4,none⟩=some (J 0)from
  ⟨(k1.below h k1.lt).cell 0,(k1.below h k1.lt).cell 1,(k2.below h k2.lt).cell 0,(k2.below h k2.lt).cell 1,(k2.below h k2.lt).cell 2,(k2.below h k2.lt).cell 3,(k2.below h k2.lt).cell 4⟩)
 have Y:=qh V;have LI:=qh H;clear V H k1 k2;go_enter func20,ntmps20;go_wp2_with fail;rw[<-LI.o];refine(tP w0 4096).mono ?_;rintro en w1 ⟨a,g,rfl,-,-,-,b1⟩;obtain⟨c0,c1,c2,c3,c4,c5,c6⟩:=HC.o w1 b1;have B1:=qh (Y.o.trans (b1.mono Y.o.size));clear b1;go_wp2_with fail;refine(Iw _ _ _ _ 0 aht 0 0 0 0).mono ?_;rintro en w2 ⟨rfl,b2⟩;have B2:=qh (B1.o.trans (b2.mono B1.o.size));clear b2;go_wp2;go_ret2;exact⟨rfl,B2.o⟩
end
end
section
open Go Go.RowKit Go.Maps
variable{α:Type}{ty:TypeId}
def Fc(w:World):E 59 #[] w λe w'=>∃h H,e= returned (agg #[slice (some ⟨h,0,none⟩) P41.length P41.length,slice (some ⟨H,0,none⟩) T41.length T41.length])/\RdL w' (slice (some ⟨h,0,none⟩) P41.length P41.length) 1 encI P41/\RdL w' (slice (some ⟨H,0,none⟩) T41.length T41.length) 1 encI T41/\Below w.heap.size w w':=by
 go_enter func59,ntmps59;go_wp2;refine bodyPost_ret (v:= agg #[slice (some ⟨w.heap.size+1,0,none⟩) 3 3,slice (some ⟨w.heap.size+1+1,0,none⟩) 2 2]) (by simp[results,Tryz.results59,go_sem]) rfl ⟨_,_,rfl,?_,?_,?_⟩;.exact Cu _ 3 P41 ((Blk.new' _ _ _ ahq).alloc _) rfl ahr
 .exact Cu _ 3 T41 (Blk.new' _ _ _ ahq) rfl ahr
 .exact(((Below.refl _ _).alloc (Nat.le_refl _) _).alloc (by simp<;>omega) _).alloc (by simp<;>omega) _
def wR{enc:α->List Value}(hs:∀x,(enc x).length=sz)(l:List α)(I:Blk w g ty cs)(hc:cs=(l.flatMap enc).toArray){x:α}{j:Nat}{u:Value}(H:l[k]? =some x)(h:(enc x)[j]? =some u):Z w g (0+k*sz+j) u:=by subst hc;rw[I.cell,Nat.zero_add];simpa using cY enc sz hs l k x j u H h
def vX{enc:α->List Value}(hs:∀x,(enc x).length=sz)(l:List α)(I:Blk w g ty cs)(hc:cs=(l.flatMap enc).toArray)(h:l.length<=1000):RdL w (slice (some ⟨g,0,none⟩) l.length l.length) sz enc l:=
 ⟨some ⟨g,0,none⟩,l.length,rfl,Nat.le_refl _,by omega,λ_=>⟨g,0,rfl,I.lt,λ_ _ O _ _ H=>wR hs l I hc O H⟩⟩
def gK.turns{lo:Nat}{b:Nat}{S:List Nat}(h:gK lo w b P T)(hc:a5 P T=0)(t:aa S w w')(H:∀i∈S,i<lo):gK lo w' b P T:=by have hm:=bi (aQ hc).1;obtain⟨h1,Y,cP,AT,cT,h2,h3,h4,h5,h6,O,V⟩:=h;exact⟨h1,Y,cP,AT,cT,t.blk h2 (λm=>by have:=H _ m;omega),h3.farT t (λq I m=>by have:=H _ m;have:=O q I;omega),h4.farT t (λq I m=>by have:=H _ m;have:=V q I;omega),h5,h6,O,V⟩
section
variable{M:LkM n}{X:WoB M}{st:M.σ}
structure AwS(X:WoB M)(w0 w:World)(st:M.σ)(N:Nat):Prop where
 is:bj X w st
 ok:M.ok st N
 bel:Below w0.heap.size w0 w
def AwS.below(G:M.Good)(h:AwS X w0 w st N)(b:Below w.heap.size w w'):AwS X w0 w' st N:=⟨h.is.below G b,h.ok,h.bel.trans (b.mono h.bel.size)⟩
def LkM.Good.runB(G:M.Good){pls:List Pl4}{x:M.σ×(Int->Md)}(h:M.ok x.1 N)(l:List Int):∀k,N+k<=lkB->M.ok (M.runB pls x l k).1 (N+k):=by
 intro k;induction k with
 |zero=>intro _;exact h
 |succ k I=>
  intro O;have h1:=I ahp;cases H:l[k]? with
  |none=>have e:M.runB pls x l (k+1)=M.runB pls x l k:=(by unfold LkM.runB;rw[List.take_add_one,H];simp);rw[e];exact G.okm _ _ h1
  |some p=>rw[qr H];exact(G.pick h1 ahp _).1
end
abbrev Dg:List Ev:=[⟨5,0,false,0⟩,⟨5,1,true,0⟩]
structure AwR(X:WoB gz.1)(lo:Nat)(v3 v4 v5:Value)(w0 w:World):Prop where
 s:AwS X w0 w st42 14
 r3:RdL w v3 4 encE uO
 r4:RdL w v4 4 encE uO
 r5:RdL w v5 4 encE Dg
 tb:gK lo w X.tb P41 T41
def AwR.below{X:WoB gz.1}{lo:Nat}{v3 v4 v5:Value}(h:AwR X lo v3 v4 v5 w0 w)(G:gz.1.Good)(b:Below w.heap.size w w'):AwR X lo v3 v4 v5 w0 w':=
 ⟨h.s.below G b,h.r3.below b (Nat.le_refl _),h.r4.below b (Nat.le_refl _),h.r5.below b (Nat.le_refl _),h.tb.below b⟩
def mW:Awk 19:=by
 intro w;go_enter func19,ntmps19;go_wp2_with fail;refine(Fc _).mono ?_;rintro en w1 ⟨gP,gT,rfl,hP,hT,b1⟩;have HN:=qh (Cj w1 _ _ _ P41 T41 12 2 2 1 0 hP hT Dp ahr ahr ahr ahr ahr);have B1:=qh b1;clear hP hT b1;go_wp2_with fail;refine HN.o.mono ?_;rintro en w2 ⟨X,lo,rfl,G,mP,MM,Kh,W5,Ox,b2⟩;unfold lkP;have H:=qh G;have UX:=qh (show ∀x∈gz.1.fp X.b,w.heap.size<=x from λx hx=>Nat.le_trans B1.o.size (Kh x hx));have O:=qh (show AwS X w w2 gz.2 0 from⟨MM,mP,B1.o.trans (b2.mono B1.o.size)⟩);have OF:=qh Ox;have Pj:=qh (show w.heap.size<=X.tb from Nat.le_trans B1.o.size Ox.2.1);have NR:X.wb<w2.heap.size:=MM.wd.lt;clear G mP MM Kh W5 Ox b2 HN B1;go_wp2_with fail;have Qi:=qh (show ∀x∈gz.1.fp X.b,x<w2.heap.size from λx hx=>Nat.lt_of_lt_of_le (O.o.is.lo H.o x hx) O.o.is.hw.2.2)
 refine(JI H.o (N:=0) (L:=vJ) (pls:=zc) (bl:=w2.heap.size+1) (off:=0) (pbl:=w2.heap.size) (poff:=0) (O.o.is.below H.o (((Below.refl _ _).alloc (Nat.le_refl _) _).alloc ahq _)) O.o.ok ahr
  (λW t k u hu=>by
   have I:=t.blk (Blk.new' (w2.alloc (.cells (zc.flatMap A4).toArray 78)) 3 (vJ.flatMap encI).toArray (g:=w2.heap.size+1) ahq) (λm=>by have:=Qi.o _ m;omega)
   have:=wR jE vJ I rfl (j:=0) (u:= J u) hu rfl
   simpa using this)
  (λW t k u hu=>by
   have I:=t.blk ((Blk.new' w2 78 (zc.flatMap A4).toArray rfl).alloc (.cells (vJ.flatMap encI).toArray 3)) (λm=>by have:=Qi.o _ m;omega)
   have h:=λj v=>wR (sz:=4) (enc:=A4) (λ_=>rfl) zc I rfl (k:=k) (x:=u) (j:=j) (u:=v) hu
   exact⟨h 0 _ rfl,h 1 _ rfl,h 2 _ rfl,h 3 _ rfl⟩) ahr).mono ?_
 rintro en w3 ⟨v3,rfl,r3,o3,k3,t3⟩;rw[IO]at r3;have KI:w2.heap.size<=w3.heap.size:=by have:=t3.size;simp at this;omega
 have V:=qh (show AwS X w w3 Gv 12 from⟨k3,H.o.runB (x:=(gz.2,λ_=>⟨-1,0,0⟩)) O.o.ok vJ 12 ahr,(O.o.bel.trans ((((Below.refl w2.heap.size w2).alloc (Nat.le_refl _) _).alloc ahq _).mono O.o.bel.size)).trans (t3.below UX.o (by have:=O.o.bel.size;simp;omega))⟩);have R3:=qh (And.intro r3 (show ∀q,v3.ownBlock=some q->w2.heap.size<=q from λq hq=>by have:=o3 q hq;simp at this;omega));have T3:=qh (OF.o.2.2.2.turns Dp (((aa.of_below (S:=gz.1.fp X.b) (((Below.refl w2.heap.size w2).alloc (Nat.le_refl _) _).alloc ahq _))).trans t3) (λi hi=>by have:=(H.o.fpa _ _ _ _ _ _ O.o.is.is).1 i hi;have:=OF.o.1;omega));clear r3 o3 k3 t3;go_wp2_with fail;have Mh:=(((Below.refl w3.heap.size w3).alloc (Nat.le_refl _) (.cells (uO.flatMap encE).toArray 55)).alloc ahq (.cells (([(0,4),(1,7)]:List (Int×Int)).flatMap jv).toArray 58))
 refine(Cs H.o (N:=12) (L:=[(0,4),(1,7)]) (bl:=w3.heap.size+1) (off:=0) (V.o.is.below H.o Mh) V.o.ok ahr
  (λW t k u hu=>by
   have I:=t.blk (Blk.new' (w3.alloc (.cells (uO.flatMap encE).toArray 55)) 58 (([(0,4),(1,7)]:List (Int×Int)).flatMap jv).toArray (g:=w3.heap.size+1) ahq) (λm=>by have:=Qi.o _ m;omega)
   have h:=λj v=>wR (sz:=2) (enc:=jv) (λ_=>rfl) [(0,4),(1,7)] I rfl (k:=k) (x:=u) (j:=j) (u:=v) hu
   exact⟨h 0 _ rfl,h 1 _ rfl⟩)).mono ?_
 rintro en w5 ⟨v5,rfl,r5,o5,k5,t5⟩;rw[G2]at r5;have NE:w3.heap.size+2<=w5.heap.size:=by have:=t5.size;simp at this;omega
 have hf:∀g,w3.heap.size<=g->g∉gz.1.fp X.b:=λg hg m=>by have:=Qi.o _ m;omega
 have H5:=qh (show AwS X w w5 st42 14 from⟨k5,H.o.runA V.o.ok _ 2 ahr,(V.o.bel.trans (Mh.mono V.o.bel.size)).trans (t5.below UX.o (by have:=V.o.bel.size;simp;omega))⟩);have R5:=qh (And.intro r5 (And.intro ((R3.o.1.below Mh (Nat.le_refl _)).farT t5 (λq hq m=>by have:=Qi.o _ m;have:=R3.o.2 q hq;omega)) (vX kU uO (t5.blk ((Blk.new' w3 55 (uO.flatMap encE).toArray rfl).alloc (.cells (([(0,4),(1,7)]:List (Int×Int)).flatMap jv).toArray 58)) (hf _ (Nat.le_refl _))) rfl ahr)));have T5:=qh ((T3.o.below Mh).turns Dp t5 (λi hi=>by have:=(H.o.fpa _ _ _ _ _ _ O.o.is.is).1 i hi;have:=OF.o.1;omega));clear r5 o5 k5 t5 Mh hf V R3 T3 O;go_wp2_with fail;refine ST (my H.o H5.o.is 1 ahr) λw6 b6=>?_;rw[oy.1,oy.2.1];have H6:=qh ((AwR.mk H5.o R5.o.2.1 R5.o.2.2 R5.o.1 T5.o).below H.o b6);clear b6 H5 R5 T5;go_wp2_with fail;refine(Fc _).mono ?_;rintro en w7 ⟨ab,ad,rfl,-,-,b7⟩;have H7:=qh (H6.o.below H.o b7);clear b7 H6;go_wp2_with fail;refine Pi (Ek _ _ _) λw8 b8=>?_;have H8:=qh (H7.o.below H.o b8.o);clear H7;go_wp2_with fail;refine Pi (rF _ _ _ _ H8.o.r3 H8.o.r4) λw9 q9=>?_;have H9:=qh (H8.o.below H.o (q9.o.below _));clear H8;go_wp2_with fail;have b9:=(Below.refl w9.heap.size w9).alloc (Nat.le_refl _) (.cells (Dg.flatMap encE).toArray 55);refine(rF _ _ _ Dg (H9.o.below H.o b9).r5 (vX kU Dg (Blk.new w9 _ _) rfl ahr)).mono ?_;rintro en w10 ⟨rfl,Xp⟩;have Y:=qh ((H9.o.below H.o b9).below H.o (Xp.below _));clear Xp b9 H9;go_wp2_with fail;refine ST (pB H.o Y.o.s.is) λw11 UE=>?_;subst w11;go_wp2_with fail;refine(Gf H.o Y.o.s.is Dp Y.o.tb ⟨OF.o.1,OF.o.2.2.1⟩).mono ?_;rintro en w12 ⟨v12,rfl,UH,-,Xi,Ru⟩;rw[show ao P41 T41 T41.length=[0,1]from oy.2.2.2.2.2.2]at UH;have PI:=qh (And.intro (show AwS X w w12 st42 14 from⟨Xi,Y.o.s.ok,Y.o.s.bel.trans (Ru.below (by simpa using Pj.o) Y.o.s.bel.size)⟩) UH);clear UH Xi Ru Y;go_wp2_with fail;have Tu:=(Below.refl w12.heap.size w12).alloc (Nat.le_refl _) (.cells (([0,1]:List Int).flatMap encI).toArray 3);have HS:=qh (mK _ v12 (slice (some ⟨w12.heap.size,0,none⟩) 2 2) [0,1] [0,1] (PI.o.2.below Tu (Nat.le_refl _)) (vX jE [0,1] (Blk.new w12 3 _) rfl ahr));rw[decide_eq_true rfl]at HS;refine Pi HS.o λw13 Xr=>?_;have Mq:=qh ((PI.o.1.below H.o Tu).below H.o (Xr.o.below _));clear Tu PI HS;have HO:=qh (Gi H.o Mq.o.is);have HL:=qh (Ib H.o Mq.o.is);rw[show((gz.1.ar st42).ops:Int)=5 from by rw[oy.2.2.1];rfl]at HO;rw[oy.2.2.2.1,oy.2.2.2.2.1,oy.2.2.2.2.2.1]at HL;go_wp2_with fail;refine ST HO.o λw14 UE=>?_;subst w14;go_wp2_with fail;refine Pi HL.o λw15 Vs=>?_;have PJ:=qh (Mq.o.bel.trans (Vs.o.mono Mq.o.bel.size));clear Mq HO HL;go_wp2;go_ret;exact⟨rfl,PJ.o⟩
end
end Go.Proofs.YtglokdbiggbkjaaGreat
