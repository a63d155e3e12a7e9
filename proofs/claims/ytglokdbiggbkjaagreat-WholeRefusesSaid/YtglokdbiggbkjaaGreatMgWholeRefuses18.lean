/- Joined texts. -/
import Derived.Deep.RegionLaw
import Derived.Deep.AppendLies
import Derived.Deep.RegionHeld3
import Derived.Deep.DeepCutAuto
import Derived.Test.YtglokdbiggbkjaaGreatMgWholeRefuses0
import Derived.Test.YtglokdbiggbkjaaGreatMgWholeRefuses2
import Derived.Test.YtglokdbiggbkjaaGreatMgWholeRefuses5
import Derived.Test.YtglokdbiggbkjaaGreatMgWholeRefuses10
import Derived.Test.YtglokdbiggbkjaaGreatMgWholeRefuses17
set_option linter.unusedVariables false
set_option linter.unusedSimpArgs false
set_option linter.defProp false
set_option maxRecDepth 100000
set_option maxHeartbeats 16000000
open Go.Proofs.Tryz
namespace Go.Proofs.YtglokdbiggbkjaaGreat
open Go.IntKind(i64)
open Go.Value(int bool slice agg tuple pointer)
open Go.Ending(returned)
open Go.Obj(cells)
variable{w:World}{a g:Nat}{bud:Int}
section
open Go.RowKit
def mOf(pa:Int):Nat:=if 1<=pa/\pa<=1024 then pa.toNat else 1
def FlV(k pa:Int):Prop:=(1<=k/\k<=5)/\(k=1->1<=pa/\pa<=1024)/\(k=3->1<=pa/\pa<=32)
def iw(pa:Int):1<=mOf pa/\mOf pa<=1024:=by unfold mOf;split<;>omega
def FlV.ok{k pa:Int}(h:FlV k pa):k=(k.toNat:Int)/\KOk k.toNat/\xr k.toNat (mOf pa) pa:=by
  obtain⟨h1,I,H⟩:=h;have:=iw pa;refine⟨by omega,.of ahE,this.1,this.2,λe=>?_,λe=>?_⟩;. have:=H ahE;unfold mOf;rw[if_pos ahE];omega
  . have:1<=pa/\pa<=1024:=(e.elim (λe=>I (by omega)) λe=>(by have:=H (by omega);omega))
    unfold mOf;rw[if_pos this];omega
def EI(w:World)(a g:Nat)(k:Int)(s:Ar)(n:Nat)(pa:Int)(e:Ending)(w':World):Prop:=
 ∃(p:Option Addr) (c:Int),e= returned (tuple #[.pointer p,J c])/\(FlV k pa->c=0)/\(c=0->FlV k pa/\∃x:Fx,p=some ⟨x.p,0,none⟩/\de w' a g k.toNat x (aG k.toNat s n (mOf pa)) (a5 k.toNat n)/\(w.heap.size<=x.p/\w.heap.size<=x.l/\w.heap.size<=x.q/\x.n=n/\x.m=mOf pa/\x.t=s.W.length+1))/\aa [a,g] w w'
def F2(w:World)(a n:Nat)(h1:1<=n)(O:n<=32)(pa:Int)(H:¬(1<=pa/\pa<=1024)):E 151 #[↑a,J n,J pa] w λe w'=>e= returned (tuple #[.pointer none,J 1])/\w=w':=by
  have t1:decide ((n:Int)<1)=false:=decide_eq_false ahE;have t2:decide ((n:Int)>32)=false:=decide_eq_false ahE;by_cases h:pa<1;. have I:decide (pa<1)=true:=decide_eq_true h;clear H h;go_enter func151,ntmps151;go_wp2;go_ret2;exact⟨rfl,rfl⟩
  . have I:decide (pa<1)=false:=decide_eq_false h;have V:decide (pa>1024)=true:=decide_eq_true ahE;clear H h;go_enter func151,ntmps151;go_wp2;go_ret2;exact⟨rfl,rfl⟩
def Fo(w:World)(n:Int)(h:¬(1<=n/\n<=32)):E 176 #[J n] w λe w'=>e= returned (bool false)/\w=w':=by
 by_cases h1:n >= 1;.have t1:decide (n >= 1)=true:=decide_eq_true h1;have t2:decide (n<=32)=false:=decide_eq_false ahE;exact aa5
 .have t1:decide (n >= 1)=false:=decide_eq_false h1;exact aa5
def yE(w:World)(a n:Nat)(h1:1<=n)(h:n<=32)(pa:Int)(H:¬(1<=pa/\pa<=32)):E 153 #[↑a,J n,J pa] w λe w'=>e= returned (tuple #[.pointer none,J 1])/\w=w':=by go_enter func153,ntmps153;go_wp2_with fail;refine LT (Fp _ n h1 h) ?_;go_wp2_with fail;refine LT (Fo _ pa H) ?_;go_wp2;go_ret2;exact⟨rfl,rfl⟩
def Gy(w:World)(a n:Nat)(h1:1<=n)(V:n<=32)(k pa:Int)(O:¬FlV k pa):E 109 #[↑a,J k,J n,J pa] w λe w'=>∃c:Int,c≠0/\e= returned (tuple #[.pointer none,J c])/\Below w.heap.size w w':=by
  unfold FlV at O;by_cases h:1<=k/\k<=5
  . by_cases I:k=1;. subst I;have H:=qh (F2 w a n h1 V pa ahE);clear O h;go_enter func109,ntmps109;go_wp2_with fail;refine LT H.o ?_;go_wp2;go_ret2;exact⟨1,by decide,rfl,Below.refl _ _⟩
    . obtain rfl:k=3:=by omega
      have H:=qh (yE w a n h1 V pa ahE);clear O h I;go_enter func109,ntmps109;go_wp2_with fail;refine LT H.o ?_;go_wp2;go_ret2;exact⟨1,by decide,rfl,Below.refl _ _⟩
  . have t1:(k==1)=false:=(by simp;omega);have t2:(k==2)=false:=(by simp;omega);have Y:(k==3)=false:=(by simp;omega);have t4:(k==4)=false:=(by simp;omega);have t5:(k==5)=false:=(by simp;omega);clear O h;go_enter func109,ntmps109;go_wp2;go_ret2;exact⟨7,by decide,rfl,Below.refl _ _⟩
def uD{s:Ar}(h:aB w a g s)(k:Int)(n:Nat)(h1:1<=n)(H:n<=32)(pa:Int)(V:s.W.length+65<=s.room)(Y:s.ops+1<=1000000000000):E 109 #[↑a,J k,J n,J pa] w (EI w a g k s n pa):=by
  by_cases O:FlV k pa;. obtain⟨e,hk,I⟩:=O.ok;have hz:szK k.toNat n (mOf pa)<=65:=(by have:=I.m3;unfold szK;(repeat' split)<;>omega);have:=Gz h k.toNat hk n h1 H I ahE Y;rw[<-e]at this;refine this.mono ?_;rintro en w' ⟨x,rfl,x1,x2,x3⟩;exact⟨_,0,rfl,λ_=>rfl,λ_=>⟨O,x,rfl,x1,x2⟩,x3⟩
  . refine(Gy w a n h1 H k pa O).mono ?_;rintro en w' ⟨c,hc,rfl,b⟩;exact⟨none,c,rfl,λq=>absurd q O,λe=>absurd e hc,aa.of_below b⟩
end
section
open Go.RowKit
def Ga(w:World)(a g:Nat)(s:Ar)(bud:Int)(P T:List Int)(e:Ending)(w':World):Prop:=
 ∃(B:Nat->Prop) (x:Hx) (s':Ar),x.a=a/\x.g=g/\e= returned (tuple #[↑x.l,J 0])/\aU B w' x (cz P T) bud s' (hm0 (cz P T))/\s'=⟨dt (hm0 (cz P T)).W P.length,s.room,0,0,0,false⟩/\(∀i,B i->w.heap.size<=i)/\w.heap.size<=x.q/\(∀v,v<P.length->w.heap.size<=x.qb v)/\aa [a] w w'
def He{s:Ar}(h:aB w a g s)(hs:s.W=[])(KU:a≠g)(AP:Option Addr)(cP:Nat)(vT:Value)(P T:List Int)(hP:RdL w (.slice AP P.length cP) 1 encI P)(MJ:∀i,(Value.slice AP P.length cP).ownBlock=some i->i≠a/\i<w.heap.size)(hT:RdL w vT 1 encI T)(hc:a8 P T=0)(bud:Int)(Mb:0<=bud)(hd1:bud<=1000)(V:s=⟨[],s.room,0,0,0,false⟩/\∀v,v<P.length->(dt (hm0 (cz P T)).W v).length+(2*(cz P T).nv v+1)<=s.room):E 104 #[↑a,agg #[.slice AP P.length cP,vT],J bud] w (Ga w a g s bud P T):=by
  obtain⟨i0,hi,JF,JH,ab⟩:=info_parts Tryz.infoSp;obtain⟨j0,hj,OI,OJ,NL⟩:=info_parts Tryz.infoHr;have HJ:=qh (And.intro hj (And.intro OI (And.intro OJ NL)));obtain⟨j1,LI,V5,V7,V9⟩:=info_parts Tryz.infoHs;have QN:=qh (And.intro LI (And.intro V5 (And.intro V7 V9)));obtain⟨j2,Vl,V6,V8,V'⟩:=info_parts Tryz.infoHl;have QO:=qh (And.intro Vl (And.intro V6 (And.intro V8 V')));clear hj OI OJ NL LI V5 V7 V9 Vl V6 V8 V';have J5:=bi (aQ hc).1;refine ajB ?_;intro KL KZ LA Lr;obtain⟨M5,XR⟩:1<=P.length/\P.length<=32:=⟨J5.1,J5.2.1⟩;have H:=qh (And.intro h (And.intro KL (And.intro KZ KU)));have HN:=qh (gX (w.alloc (cells #[.slice AP P.length cP,vT] 24)) (.slice AP P.length cP) vT P T (hP.alloc _) (hT.alloc _) hc);have HS:=qh (And.intro hs V);have JX:=qh hc;have Um:=qh (And.intro hP MJ);have HR:=qh (λW=>oI bud W Mb hd1);have JV:(w.alloc (cells #[.slice AP P.length cP,vT] 24)).heap.size=w.heap.size+1:=by simp
  have B0:=qh ((Below.refl w.heap.size w).alloc (Nat.le_refl _) (cells #[.slice AP P.length cP,vT] 24));have BX:=qh (Blk.new w 24 #[.slice AP P.length cP,vT]);clear h hs hP MJ hT Mb hd1 V J5 KL KZ KU hc;go_enter func104,ntmps104;go_wp2_with fail;refine HN.o.mono ?_;rintro en w1 ⟨b,rfl,I,t1,b1⟩;rw[JV]at I t1 b1;refine akc ?_;intro K1;clear t1 b1 I HN;go_wp2_with fail;refine LT (HR.o _) ?_;go_wp2_with fail;refine LT (dY _ _ _ _ (K1.o.1.tab JX.o)) ?_;go_wp2_with (refine wpList_make_full _ rfl (.tmp 37) (.tmp 37) 237 rfl w1.heap.size 113 i0 (agg #[J 0,J 0,J 0,J 0]) 4 Tryz.underlying237 hi JF JH .i64 .i64 T.length T.length T.length rfl rfl rfl rfl ?b2 ?b3 (Nat.le_refl _) ?_);case b2=>rw[ab];omega
  case b3=>unfold maxLen;omega
  intro w4 r' hg;have I:dy w4 w1.heap.size (List.replicate T.length Sp.zero):=by unfold dy;rw[oH];have:=fU r';have e:(madeCells #[Value.int .i64 0,J 0,J 0,J 0] (T.length*4)).toList=List.replicate (T.length*4) (J 0):=lp _ _;exact aa2
  have t4:aa [] w1 w4:=aa.of_below ((Below.refl w1.heap.size w1).grown hg (Nat.le_refl _) (λj hj=>by cases hj));have LL:=I.lt;have H4:=qh (And.intro I (And.intro t4 LL));clear r' hg I t4 LL;go_upto_region 7 with fail;obtain⟨q,hq⟩:=LE w1.heap.size;rw[<-hq]at H4 ⊢;have HQ:=qh hq;clear hq;obtain⟨l,hl⟩:=LE w4.heap.size;obtain⟨w5,J8⟩:=LE (w4.alloc (.cells (uI bud (.slice none 0 0) (.slice none 0 0) q T.length) 247));have MX:=J8;unfold uI at MX;rw[<-MX,<-hl];have t5:aa [] w4 w5:=by rw[J8];exact(aa.refl _ _).alloc _
  have MU:w5.heap.size=l+1:=by rw[J8,hl];simp
  have ML:Blk w5 l 247 (uI bud (.slice none 0 0) (.slice none 0 0) q T.length):=by rw[J8,hl];exact Blk.new _ _ _
  have HO:=qh (show a<w.heap.size/\g<w.heap.size/\a≠g/\w.heap.size+1<=b/\b<w1.heap.size/\w1.heap.size=q/\q<l/\w5.heap.size=l+1/\w.heap.size+1<=w1.heap.size from by
    have e1:b<w1.heap.size:=K1.o.1.low.2;have e2:=K1.o.2.2.2;have e3:=H4.o.2.2;have e4:=H.o;have e5:=HQ.o
    omega)
  have T5:=qh (show aa [] w1 w5 from H4.o.2.1.trans t5);have R2:Kq (∀W,aa [l,b,a] w5 W->W.cell? w.heap.size=some (.slice AP P.length cP)/\Z W w.heap.size 1 vT/\RdL W (.slice AP P.length cP) 1 encI P):=qh λW Y=>by have o:=HO.o;have k1:aa [l,b,a] w1 W:=(T5.o.mono ahF).trans Y;have bx:=k1.blk K1.o.2.2.1 ahJ;refine⟨bx.cell 0,bx.cell 1,?_⟩;have k0:RdL w1 (.slice AP P.length cP) 1 encI P:=Um.o.1.below K1.o.2.1 (Nat.le_refl _);exact k0.turns k1 λg' M' hm=>by have:=Um.o.2 g' M';simp at hm;omega
  have So:=qh (H4.o.1.turns (T:=[]) t5 ahF)
  have HI:=qh (show NwR w5 w5 l b a g q bud P T (cz P T) (λi=>w.heap.size+1<=i/\i<w1.heap.size) 0 (.slice none 0 0) (λ_=>0) (λ_=>0) s from by
    have o:=HO.o;refine⟨aa.refl _ _,ML,World.ownsRow_nil _ _ _ _,?_,?_,⟨by rw[HS.o.1];exact HS.o.2.1,HS.o.2.2⟩,λv O=>absurd O (Nat.not_lt_zero _),λv O=>absurd O (Nat.not_lt_zero _),λv O=>absurd O (Nat.not_lt_zero _),λv u O=>absurd O (Nat.not_lt_zero _),λv u O=>absurd O (Nat.not_lt_zero _),.inl ⟨rfl,K1.o.1.turns T5.o ahF⟩⟩;. exact(H.o.1.turns (aa.of_below (S:=[]) K1.o.2.1) ahF ahF).turns T5.o ahF ahF
    . rw[HS.o.1];rfl)
  have h0:Kq (∀i,(w.heap.size+1<=i/\i<w1.heap.size)->i≠l/\i≠a/\i<w5.heap.size):=qh λi hi=>by have o:=HO.o;omega
  clear J8 MX t5 MU ML hl H4;obtain⟨f0,f1,_⟩:=R2.o _ (aa.refl _ _);go_wp2;clear f0 f1;go_loopw [11,44] (λlf i wr=>∃(k:Nat) (vR:Value) (lb qb:Nat->Nat) (s1:Ar),lf= J ((ay P k).length:Nat)/\i= J k/\k<=P.length/\NwR w5 wr l b a g q bud P T (cz P T) (λi=>w.heap.size+1<=i/\i<w1.heap.size) k vR lb qb s1/\s1.room=s.room) (λ_ i _=>P.length-(intOf i).toNat);case atStart=>exact⟨0,_,_,_,_,rfl,rfl,by omega,HI.o,rfl⟩
  case round=>
    clear HI;obtain⟨k,vR,lb,qb,s1,rfl,rfl,hk,Y,Mf⟩:=hrel;obtain⟨wo,rfl⟩:∃wo:World,wo=wr:=⟨_,rfl⟩;by_cases I':k<P.length
    . obtain⟨A,cap,rfl⟩:=bO Y.own;have HW:=qh (And.intro Y Mf);obtain⟨f0,f1,f2⟩:=R2.o _ Y.tn;have Og:=qh (we wo (.slice AP P.length cP) vT P f2 ahE (k:Int));obtain⟨n0,NZ⟩:=LE ((chL P k).length);rw[<-NZ]at Og;have L4:=qh NZ;have KD:=a7 P k;clear Y Mf f2 NZ;go_wp2_with fail;refine Og.o.mono ?_;rintro en w2 ⟨v2,rfl,o2,b2⟩;obtain⟨A2,c2,rfl⟩:=bO o2;have LU:n0<=32:=(by have:=kJ P k P.length;have:=L4.o;unfold chL at this;omega);have PG:=qh (And.intro (HW.o.1.below b2 ah4 ah4 ah4 ah4) HW.o.2);clear b2 o2 f0 f1 HW Og;go_upto_if 52 with fail;go_cut [11,13] (λs11 s13 wx=>s11= J ((ay P (k+1)).length:Nat)/\s13= J (nvT P T k:Nat)/\NwR w5 wx l b a g q bud P T (cz P T) (λi=>w.heap.size+1<=i/\i<w1.heap.size) k (.slice A k cap) lb qb s1/\(CB l a wx b P T (.slice A k cap)\/(ay P (k+1)=[]/\ic (λi=>w.heap.size+1<=i/\i<w1.heap.size) wx b P T)))
      case first=>
        by_cases NT:chL P k=[]
        . have O0:=(sE I').1 NT;have HM:=qh (PG.o.1.mates JX.o ah4 ah4 ah4 ah4 h0.o (Dp I' O0));have HV:=qh (show((ay P (k+1)).length=(ay P k).length+1)/\nvT P T k=max 1 (T.count (k:Int))from⟨by rw[eG,if_pos O0];simp,by unfold nvT;rw[if_pos NT]⟩);have XT:T.count (k:Int)<=32:=Nat.le_trans List.count_le_length Lr;obtain⟨ct,Nz⟩:=LE (T.count (k:Int));rw[<-Nz]at HM HV XT;have e0:n0=0:=(by rw[L4.o,NT];rfl);subst e0;clear NT O0 Nz;go_wp2_with fail;refine Op HM.o λw3 NR=>?_;have H3:=qh (And.intro NR.o.1 NR.o.2.1);clear HM;go_wp2
          all_goals
            go_meet
            case rel=>
              refine⟨?_,?_,H3.o.1,.inl H3.o.2⟩;. rw[HV.o.1];go_num
              . rw[HV.o.2];exact congrArg (Value.int .i64) ahE
        . have O0:¬eV P k=true:=λe=>NT ((sE I').2 e);have HV:=qh (show ay P (k+1)=ay P k/\nvT P T k=n0 from⟨by rw[eG,if_neg O0],by unfold nvT;rw[if_neg NT,L4.o]⟩);have e0:0<n0:=(by rw[L4.o];exact List.length_pos_iff.2 NT);have e1:¬(n0:Int)=0:=(by omega);have e2:((n0:Int)==0)=false:=(by simpa using e1);clear NT O0;go_wp2;go_meet
          case rel=>
            refine⟨by rw[HV.o.1],by rw[HV.o.2],PG.o.1,?_⟩;rcases PG.o.1.tab with⟨q1,q2⟩|q1
            . exact .inr ⟨by rw[HV.o.1];exact q1,q2⟩
            . exact .inl q1
      case rest=>
        obtain⟨rfl,rfl,NR,UX⟩:=hcut;obtain⟨w3,rfl⟩:∃w3:World,w3=wc:=⟨_,rfl⟩;obtain⟨nv,NE⟩:=LE (nvT P T k);rw[<-NE];have Ug:=qh NE;have VB:1<=nv/\nv<=32:=(by rw[NE];exact vf JX.o I');have Uq:=qh (BV NR.ar nv VB.1 VB.2 (by have h9:=NR.room.2 k I';rw[NR.cat,NE];exact h9));have H3:=qh (And.intro NR (And.intro UX PG.o.2));clear NR UX PG NE L4 LU;go_wp2_with fail;refine Uq.o.mono ?_;rintro en w4 ⟨l',q',rfl,Tr,Vp,VK,t4⟩;have o:=HO.o;have NO:Blk w4 l 247 (uI bud (.slice A k cap) (.slice none 0 0) q T.length):=t4.blk H3.o.1.blk ahJ;have o4:w4.ownsRow w5.heap.size 249 1 (.slice A k cap) k (gY lb k):=aa.own H3.o.1.own t4 (λx hx=>by have:=(H3.o.1.own.lt x hx).1;simp;omega);have OU:Z w4 l 1 (.slice A k cap):=NO.cell 1;have ZV:w5.heap.size<=w4.heap.size:=Nat.le_trans H3.o.1.tn.size t4.size;have bw:l<w4.heap.size:=NO.lt;have Qf:(Value.slice A k cap).ownBlock≠some l:=(λe=>by have:=(H3.o.1.own.lt l e).1;omega);have H4:=qh (And.intro Tr (And.intro Vp (And.intro VK t4)));have Ui:=qh o4;have TU:=qh NO;clear Tr Vp VK t4 o4 NO Uq o;go_wp2_with (at_builtin;refine wpList_append_lies _ rfl _ _ 244 rfl w5.heap.size 249 j0 (.pointer none) 1 8 Tryz.underlying244 HJ.o.1 HJ.o.2.1 HJ.o.2.2.1 HJ.o.2.2.2 rfl ahG _ _ _ rfl (Ui.o.alloc _) ⟨w4.heap.size,0,none⟩ 1 1 [pointer (some ⟨l',0,none⟩)] rfl rfl (cell_one_new _ _ _) ah6 ahG ?c3 ?c4 ?c5 _ rfl ?_);case c3=>unfold maxLen;omega
        case c4=>omega
        case c5=>simp;omega
        intro g3 Ks w7 h3 Kj MP Tf;have L7:=(TU.o.alloc (cells #[↑l'] 249)).grown Kj (λe=>Qf e.symm);have ZE:Z w7 l 1 (.slice A k cap):=L7.cell 1;have bP:=L7.free 1
        have M2:=qh (show NwR w5 (w7.setCell ⟨l,1,none⟩ (slice (some ⟨g3,0,none⟩) (k+1) Ks)) l b a g q bud P T (cz P T) (λi=>w.heap.size+1<=i/\i<w1.heap.size) (k+1) (slice (some ⟨g3,0,none⟩) (k+1) Ks) (aX lb k l') (aX qb k q') {s1 with W:=s1.W++List.replicate (2*nv+1) 0} from by
          have o:=HO.o;obtain rfl:=Ug.o
          exact H3.o.1.step H3.o.2.1 h0.o ahE ahE ahE ahE ahE rfl H4.o.1 H4.o.2.1 H4.o.2.2.1 H4.o.2.2.2 h3 Kj (by simpa using MP))
        have Nq:=qh H3.o.2.2;clear h3 Kj MP L7 TU Ui H4 H3 Ug;go_wp2;go_roundw;case rel=>exact⟨k+1,_,_,_,_,rfl,by go_num,by omega,M2.o,Nq.o⟩
        case measure=>simp[intOf];omega
    . obtain rfl:k=P.length:=by omega
      obtain⟨bR,cR,rfl,Z8,Z9⟩:=gG Y.own ahE;have c3:Z wo l 3 (slice (some ⟨q,0,none⟩) T.length T.length):=Y.blk.cell 3
      have Xc:Kq (∃B',eM B' wo b P T/\∀i,B' i->i≠l):=qh (by
        rcases Y.tab with⟨q1,_⟩|⟨B',q1,q2,_⟩
        . exfalso;obtain⟨x,a',_⟩:=xAt JX.o (show 0<T.length by omega);have:=fJ.2 a'.leaf;unfold ac at this;rw[q1]at this;cases this
        . exact⟨B',q1,λi hi=>(q2 i hi).1⟩)
      have WY:=qh (So.o.turns Y.tn ahN)
      have Km:=qh (show NwL wo wo l q bud (cz P T) (slice (some ⟨bR,0,none⟩) P.length cR) lb 0 (.slice none 0 0) (λ_=>0) (λ_=>0)from
        ⟨aa.refl _ _,Y.blk,World.ownsRow_nil _ _ _ _,λt ht=>absurd ht (Nat.not_lt_zero _),λt ht=>absurd ht (Nat.not_lt_zero _)⟩)
      have XG:w5.heap.size<=wo.heap.size:=Y.tn.size;have HW:=qh (And.intro Y Mf);clear Y Mf;go_wp2;clear c3;go_loopw [84] (λi wl=>∃(m:Nat) (vL:Value) (ub uk:Nat->Nat),i= J m/\m<=T.length/\NwL wo wl l q bud (cz P T) (slice (some ⟨bR,0,none⟩) P.length cR) lb m vL ub uk) (λi _=>T.length-(intOf i).toNat);case atStart=>exact⟨0,_,_,_,rfl,by omega,Km.o⟩
      case round=>
        clear Km;obtain⟨m,vL,ub,uk,rfl,hm,hL⟩:=hrel;obtain⟨wl,rfl⟩:∃wl:World,wl=wr:=⟨_,rfl⟩;by_cases Rn:m<T.length
        . obtain⟨x,ax,ex⟩:=xAt JX.o Rn;obtain⟨A,cap,rfl⟩:=bO hL.own;have PE:Kq (∀W,Below wl.heap.size wl W->iD W b P T/\Blk W l 247 (uI bud (slice (some ⟨bR,0,none⟩) P.length cR) (.slice A m cap) q T.length)/\(W.cell? w.heap.size=some (.slice AP P.length cP)/\Z W w.heap.size 1 vT/\RdL W (.slice AP P.length cP) 1 encI P)/\∀v,v<P.length->Z W bR v (pointer (some ⟨lb v,0,none⟩))):=qh λW Y=>by obtain⟨B',k1,k2⟩:=Xc.o;have tw:aa [l] wo W:=hL.tn.trans (aa.of_below Y);have o:=HO.o;refine⟨(k1.turns tw λi hi hB=>k2 i hB ah8).f,(hL.below Y).blk,R2.o _ (HW.o.1.tn.trans (tw.mono ahF)),λv O=>?_⟩;have c:=HW.o.1.own.cellAt v ahE;rw[oE _ _ _ O]at c;exact tw.cell c ahJ
          have Ko:l<wl.heap.size:=hL.blk.lt;obtain⟨D,hD⟩:=LE ((jd P T).toNat);have ZW:1<=D/\D<=5:=(by rw[hD];exact⟨(i7 JX.o).d1,xi JX.o⟩);have Ss:=Jm wl b P T m x ax.at_ (PE.o wl (Below.refl _ _)).1;rw[ax.len,<-hD]at Ss;have HU:=qh Ss;have HL:=qh hL;have HX:=qh (And.intro ax (And.intro ex hD));clear hL ax ex hD Ss;go_wp2_with fail;refine HU.o.mono ?_;rintro en w7 ⟨v7,rfl,o7,b7⟩;obtain⟨bu,cu,rfl,ad,XX⟩:=gG o7 ahE;have Uy:Kq (∀W,Below w7.heap.size w7 W->∀c,c<D->Z W bu c (J (plX P x c))):=qh λW Y c J7=>by have e:=o7.cellAt c ahE;have Vb:(upL P x)[c]? =some (plX P x c):=(by obtain⟨u,hu⟩:=ak (show c<(upL P x).length by rw[HX.o.1.len,<-HX.o.2.2];exact J7);rw[hu];unfold plX;rw[bH hu]);have e2:((upL P x).flatMap encI)[c]? =some (J (plX P x c)):=(by have:(upL P x).flatMap encI=(upL P x).map (Value.int .i64):=AE _;rw[this,List.getElem?_map,Vb];rfl);rw[e2]at e;exact(Y.cell (p:=⟨bu,c,none⟩) XX).trans e
          have H7:=qh b7;have PR:wl.heap.size<=w7.heap.size:=b7.size;clear o7 b7 HU;go_wp2;go_loopw [17,92] (λlv i wi=>∃(c:Nat),i= J c/\c<=D/\Below w7.heap.size w7 wi/\wi.ownsRow w7.heap.size 255 2 lv c (fY lb (cz P T) m c)) (λ_ i _=>D-(intOf i).toNat);case atStart=>exact⟨0,rfl,by omega,Below.refl _ _,World.ownsRow_nil _ _ _ _⟩
          case round=>
            obtain⟨c,rfl,J7,OX,O8⟩:=hrel;obtain⟨wi,rfl⟩:∃wi:World,wi=wr:=⟨_,rfl⟩;by_cases SY:c<D
            . obtain⟨v,_,Nh,TB,_,_⟩:=HX.o.1.up c (by rw[<-HX.o.2.2];exact SY);have Xx:=Uy.o wi OX c SY;have WS:=qh (show(cz P T).pl m c=v from by show(plX P (T.getD m 0) c).toNat=v;rw[HX.o.2.1,TB,Int.toNat_natCast]);rw[TB]at Xx;obtain⟨g0,g1,⟨g2,g3,g4⟩,g5⟩:=PE.o wi (H7.o.trans (OX.mono PR));have Ur:=qh (Ey wi b P T m Rn g0);obtain⟨A3,c3,rfl⟩:=bO O8;have HI:=qh (And.intro OX O8);have HV:=qh TB;clear g0 g1 g2 g3 g4 g5 OX O8;go_wp2_with fail;refine LT Ur.o ?_;clear Ur;go_upto_if 101 with fail;go_cut [21] (λZl wx=>Zl= J ((cz P T).sl m c:Nat)/\Below wi.heap.size wi wx)
              case first=>
                by_cases hc0:c=0;. subst hc0;have F':=qh (slT JX.o Rn HX.o.1 (k:=0) (by rw[<-HX.o.2.2];omega));go_wp2;go_meet;case rel=>exact⟨by rw[F'.o];rfl,Below.refl _ _⟩
                . obtain⟨d,rfl⟩:∃d,c=d+1:=⟨c-1,by omega⟩;obtain⟨c,hc⟩:=LE (d+1);obtain⟨v0,_,bA,VX,_,_⟩:=HX.o.1.up d (by rw[<-HX.o.2.2];omega)
                  have F':=qh (show(((cz P T).sl m (d+1):Nat):Int)=fI (chL P v) v0 from by
                    rw[slT JX.o Rn HX.o.1 (k:=d+1) (by rw[<-HX.o.2.2];exact SY)];show fI (chL P (plX P x (d+1))) (plX P x d)=_
                    rw[HV.o,VX])
                  have SE:=Uy.o wi HI.o.1 d ahE;rw[VX]at SE;obtain⟨g0,g1,⟨g2,g3,g4⟩,g5⟩:=PE.o wi (H7.o.trans (HI.o.1.mono PR));have Og:=qh (we wi.drew (.slice AP P.length cP) vT P (show RdL wi.drew (.slice AP P.length cP) 1 encI P from g4) ahE (v:Int));have Tv:w.heap.size<wi.heap.size:=(by have:=HO.o;have:=HI.o.1.size;omega);have Kr:bu<wi.heap.size:=(by have:=HI.o.1.size;omega);have bc:(chL P v).length<=32:=(by have:=kJ P v P.length;unfold chL;omega);have x1:IntKind.i64.wrap (((d:Nat):Int)+1-1)=(d:Int):=(by rw[Int.add_sub_cancel];exact IntWalk.i64_in _ ahE);have x2:(d:Int)<(D:Int):=(by omega);have x4:IntKind.i64.wrap (d:Int)=(d:Int):=IntWalk.i64_in _ ahE;have x5:¬(d:Int)<0:=(by omega);have x6:¬(D:Int)<=(d:Int):=(by omega);have x3:d<D:=(by omega);clear g0 g1 g4 g5 hc;go_wp2
                  go_region_held3 (λW=>W.cell? w.heap.size=some (.slice AP P.length cP)/\Z W w.heap.size 1 vT/\Z W bu d (J v0))
                    (first|exact⟨g2,g3,SE⟩|exact K8.o)
                    (first
                      | (go_at_call 140;go_loud (refine Og.o.mono ?_);rintro en w8 ⟨v8,rfl,o8,b8⟩;have B8:=qh (show Below wi.heap.size wi w8 from⟨b8.os,b8.tape,b8.output,b8.size,b8.block⟩);have K8:=qh (And.intro ((B8.o.cell (p:=w.heap.size) Tv).trans g2) (And.intro ((B8.o.cell (p:=⟨w.heap.size,1,none⟩) Tv).trans g3) ((B8.o.cell (p:=⟨bu,d,none⟩) Kr).trans SE)));have QM:=qh (lZ w8 v8 (chL P v) v0 (dJ o8 ahE));clear o8 b8)
                      | (go_at_call 119;go_loud (refine LT QM.o ?_)))
                  all_goals go_wp2;go_meet;case rel=>exact⟨by rw[F'.o],B8.o⟩
              case rest=>
                obtain⟨rfl,Ls⟩:=hcut;obtain⟨wx,rfl⟩:∃wx:World,wx=wc:=⟨_,rfl⟩;have Q8:Below w7.heap.size w7 wx:=HI.o.1.trans (Ls.mono HI.o.1.size);have VH:wx.ownsRow w7.heap.size 255 2 (.slice A3 c c3) c (fY lb (cz P T) m c):=aa.own HI.o.2 (aa.of_below (S:=[]) Ls) ahF;obtain⟨g0,g1,_,g5⟩:=PE.o wx (H7.o.trans (Q8.mono PR));have c1:Z wx l 1 (slice (some ⟨bR,0,none⟩) P.length cR):=g1.cell 1;have g6:=g5 v Nh;have HY:=qh (And.intro Q8 VH);have XH:w7.heap.size<=wx.heap.size:=Q8.size;have bF:l<wx.heap.size:=(by omega);have al:bR<wx.heap.size:=(by have:=aT g6;exact this);have y1:(v:Int)<(P.length:Int):=(by omega);have y2:¬(v:Int)<0:=(by omega);clear g0 g1 g5 Q8 VH Ls HI;go_wp2_with (at_builtin;refine wpList_append_lies _ rfl _ _ 252 rfl w7.heap.size 255 j1 (agg #[.pointer none,J 0]) 2 16 Tryz.underlying252 QN.o.1 QN.o.2.1 QN.o.2.2.1 QN.o.2.2.2 rfl ahG _ _ _ rfl (HY.o.2.alloc _) ⟨wx.heap.size,0,none⟩ 1 1 [pointer (some ⟨lb v,0,none⟩),J ((cz P T).sl m c:Nat)] rfl rfl (qA _ _ _ _) ah6 ahG ?c3 ?c4 ?c5 _ rfl ?_);case c3=>unfold maxLen;omega
                case c4=>omega
                case c5=>first|(simp;omega)|omega
                intro g3 Ks w9 h9 NW Rk Yp;have H9:=qh (And.intro h9 NW);clear h9 NW Rk;go_wp2;go_roundw;case rel=>exact⟨c+1,by go_num,by omega,(HY.o.1.alloc XH _).grown H9.o.2 ahJ (λj hj=>(HY.o.2.lt j hj).1),by rw[jm,WS.o];exact H9.o.1⟩
                case measure=>simp[intOf];omega
            . obtain rfl:c=D:=by omega
              obtain⟨nb,cv,rfl,Yw,Yx⟩:=gG O8 ahE;have P3:Below wl.heap.size wl wi:=H7.o.trans (OX.mono PR);obtain⟨_,g1,_,_⟩:=PE.o wi P3;have c2:Z wi l 2 (.slice A m cap):=g1.cell 2;have HY:=qh (And.intro P3 (And.intro (db O8 PR) (And.intro g1 (HL.o.below P3).own)));have Rv:wo.heap.size<=wi.heap.size:=Nat.le_trans HL.o.tn.size P3.size;have Qg:l<wi.heap.size:=g1.lt;have Qf:(Value.slice A m cap).ownBlock≠some l:=(λe=>by have:=(HL.o.own.lt l e).1;have:=HO.o;omega);clear OX O8 g1 P3;go_wp2_with (at_builtin;refine wpList_append_lies _ rfl _ _ 245 rfl wo.heap.size 252 j2 (.slice none 0 0) 1 24 Tryz.underlying245 QO.o.1 QO.o.2.1 QO.o.2.2.1 QO.o.2.2.2 rfl ahG _ _ _ rfl (HY.o.2.2.2.alloc _) ⟨wi.heap.size,0,none⟩ 1 1 [slice (some ⟨nb,0,none⟩) c cv] rfl rfl (cell_one_new _ _ _) ah6 ahG ?c3 ?c4 ?c5 _ rfl ?_);case c3=>unfold maxLen;omega
              case c4=>omega
              case c5=>simp;omega
              intro g9 c9 w9 h9 NW Rk Yp;have Lm:=(HY.o.2.2.1.alloc (cells #[slice (some ⟨nb,0,none⟩) c cv] 252)).grown NW (λe=>Qf e.symm);have ZG:Z w9 l 2 (.slice A m cap):=Lm.cell 2;have bT:=Lm.free 2
              have WK:=qh (show NwL wo (w9.setCell ⟨l,2,none⟩ (slice (some ⟨g9,0,none⟩) (m+1) c9)) l q bud (cz P T) (slice (some ⟨bR,0,none⟩) P.length cR) lb (m+1) (slice (some ⟨g9,0,none⟩) (m+1) c9) (aX ub m nb) (aX uk m cv)from by
                have o:=HO.o;obtain rfl:=HX.o.2.2
                exact HL.o.step ahE (i7 JX.o).d1 HY.o.1 HY.o.2.1 h9 NW (by simpa using Rk))
              clear h9 NW Rk Lm HY;go_wp2;go_roundw;case rel=>exact⟨m+1,_,_,_,by go_num,by omega,WK.o⟩
              case measure=>simp[intOf];omega
        . obtain rfl:m=T.length:=by omega
          obtain⟨bL,cL,rfl,Z5,Z6⟩:=gG hL.own ahE;have HL:=qh hL;clear hL;go_wp2;go_ret2;have o:=HO.o;obtain⟨K,KB⟩:=Jb (lo:=w.heap.size) HW.o.1 HL.o WY.o (i7 JX.o) (xi JX.o) Lr XR ahE ahE ahE ahE ahE;refine⟨_,_,s1,rfl,rfl,rfl,K,by have e:=HW.o.1.room.1;rw[HW.o.1.cat,HW.o.2]at e;exact e,KB,by show w.heap.size<=q;omega,λv O=>?_,?_⟩;. have:=(HW.o.1.lo v O).2.1;show w.heap.size<=qb v;omega
          . have Zp:aa [a,l,b] w w5:=(aa.of_below (S:=[a,l,b]) K1.o.2.1).trans (T5.o.mono ahF);have RU:aa [a,l,b] w wl:=(Zp.trans (HW.o.1.tn.mono ahF)).trans (HL.o.tn.mono ahF);exact RU.fresh λi hi=>by simp at hi ⊢;omega
end
section
open Go.RowKit
section
variable{B:Nat->Prop}{w':World}{x:Hx}{T:HTr}{s s':Ar}{m:Hm}
def kz(T:HTr)(m:Hm)(i:Int):Int:=if okI m.S i/\(getS m.S i).pc=10 then(m.sp (T.pl i.toNat 0) (T.sl i.toNat 0)).a else 0
def CX(k:aU B w x T bud s m)(V:T.Ok)(i:Int):E 251 #[↑x.l,J i] w λe w'=>e= returned (J (kz T m i))/\Below w.heap.size w w':=by
 have KE:=aM;have I:=wE;have H:=qh k;have HN:=k.fx.n32;have P6:=k.fx.d5;have hd:=V.d1;obtain⟨p,i'⟩:=LE (getS m.S i);have HP:=qh i';by_cases h10:p.pc=10
 .have mP:okI m.S i:=by exact abF
  obtain⟨n,rfl,hn,hg,hl⟩:=k.okn mP;have HV:=qh (And.intro (V.plt n 0 hn ahE) (V.slt n 0 hn ahE));obtain⟨u,Y⟩:=LE (m.sp (T.pl n 0) (T.sl n 0));have HU:=qh Y;have O:Kq (kz T m n=u.a):=qh (by unfold kz;rw[if_pos ⟨mP,by rw[<-i'];exact h10⟩,Int.toNat_natCast,<-Y]);have y:(p.pc !=10)=false:=by simpa using h10
  refine ajw ?_;intro t2 t3;have g1:(0:Int)<T.D:=by omega
  have g2:0<T.D:=by omega
  clear k i' mP hg hl Y h10;go_enter func251,ntmps251;go_wp2_with fail;refine Pi (jM H.o n) λw1 b1=>?_;rw[<-HP.o];unfold aF;have k1:=H.o.below b1;obtain⟨L8,cL,cP,cS⟩:=k1.lev hn (show 0<T.D by omega);simp only[Nat.zero_mul,Nat.add_zero]at cP cS;have H1:=qh (And.intro k1 b1);clear k1 b1;go_wp2_with fail;refine Pi ((H1.o.1.alloc _).spot1 HV.o.1 HV.o.2) λw2 b2=>?_;rw[<-HU.o];unfold aF;have H2:=qh ((H1.o.2.alloc H1.o.2.size _).trans (b2.mono (Nat.le_trans H1.o.2.size ahF)));clear b2;go_wp2;go_ret;exact⟨bZ O.o.symm,H2.o⟩
 .have y:(p.pc !=10)=true:=by simpa using h10
  have O:Kq (kz T m i=0):=qh (by unfold kz;rw[if_neg (λh=>h10 (by rw[i'];exact h.2))]);clear k i' h10;go_enter func251,ntmps251;go_wp2_with fail;refine Pi (jM H.o i) λw1 b1=>?_;rw[<-HP.o];unfold aF;have H1:=qh b1;clear b1;go_wp2;go_ret;exact⟨bZ O.o.symm,H1.o⟩
end
end
section
open Go Go.RowKit
variable{T:HTr}
def hmV(xl:Nat):Value:= .iface 173 (agg #[.iface 174 ↑xl])
structure HmA where
 s:Ar
 m:Hm
structure HmB where
 x:Hx
 B:Nat->Prop
 bt:Nat
 hi:Nat
def Bg(T:HTr)(bud:Int):LkM T.n where
 σ:=HmA
 β:=HmB
 ok:=λst N=>(∃hb,d9 T bud st.m hb)/\st.s.ops<=N
 ar:=λst=>st.s
 sp:=λst i=>sv st.m.S i
 cn:=λst i=>if (sv st.m.S i).pc=10 then(st.m.sp (T.pl i 0) (T.sl i 0)).a else 0
 rd:=false
 step:=λst i=>⟨jB T st.s st.m i,stepI T bud st.m i⟩
 ask:=λst i r=>if r then st else⟨st.s,kI T st.m i⟩
 leave:=λst i=>⟨st.s,gw T bud st.m i⟩
 bt:=λb=>b.bt
 hi:=λb=>b.hi
 fp:=λb=>mvL b.x T
 is:=λb w a g lb st=>aU b.B w b.x T bud st.s st.m/\(b.x.a=a/\b.x.g=g)/\jt w lb T.n 7 (hmV b.x.l) (mvL b.x T) b.bt b.hi/\∀i,b.B i->b.bt<=i/\i<b.hi
def pU(T:HTr)(s:Ar)(m:Hm)(i:Int):(jB T s m i).ops<=s.ops+1:=by
 unfold jB;split;.omega
 .exact qe _ _ _ _
def d9.okN{m:Hm}{H:Nat->Nat->Option Nat}(h:d9 T bud m H){i:Nat}(hi:i<T.n):okI m.S (i:Int)/\getS m.S (i:Int)=sv m.S i:=by
 have I:i<m.S.length:=by rw[(h.x 0).sl];exact hi
 exact⟨⟨by omega,by omega⟩,dL I⟩
def yo(H:T.Ok)(hn:1<=T.n/\T.n<=32)(I:0<=bud/\bud<=1000):(Bg T bud).Good where
 n32:=hn
 okS:=fun(st:HmA) N i h hN hi=>by
  obtain⟨⟨O,h⟩,Y⟩:=h
  have:=pU T st.s st.m i
  exact⟨by have:=h.act H I.1 0 (i:Int);exact this,by show(jB T st.s st.m i).ops<=_;omega⟩
 okA:=fun(st:HmA) N i r h hN hi=>by
  obtain⟨⟨O,h⟩,Y⟩:=h
  cases r
  .exact⟨by have:=h.act H I.1 1 (i:Int);exact this,by show st.s.ops<=_;omega⟩
  .exact⟨⟨O,h⟩,by show st.s.ops<=_;omega⟩
 okL:=fun(st:HmA) N i h hN hi=>by
  obtain⟨⟨O,h⟩,Y⟩:=h
  exact⟨by have:=h.act H I.1 2 (i:Int);exact this,by show st.s.ops<=_;omega⟩
 okm:=fun(st:HmA) N h=>⟨h.1,by have:=h.2;omega⟩
 one:=fun(st:HmA) N i j h hi hj h1 h2 _=>by obtain⟨⟨O,h⟩,_⟩:=h;exact h.one H hi hj h1 h2
 pcs:=fun(st:HmA) N i h hi=>by
  obtain⟨⟨O,h⟩,_⟩:=h
  obtain⟨K,k,_⟩:=h.t i hi
  show 0<=(sv st.m.S i).pc
  cases k<;>omega
 cnt:=fun(st:HmA) N i h hi=>by
  obtain⟨⟨O,h⟩,_⟩:=h
  have hd:=H.d1
  show(sv st.m.S i).pc=10↔0<(if (sv st.m.S i).pc=10 then(st.m.sp (T.pl i 0) (T.sl i 0)).a else 0)
  split
  .rename_i e
   obtain⟨K,k,_⟩:=h.t i hi
   have e0:(st.m.sp (T.pl i 0) (T.sl i 0)).pc=10:=by
    cases k with
    |hold _ I=>exact I 0 ahE
    |rest h=>omega
    |come _ h=>omega
    |granted _ h=>omega
    |pass _ h=>omega
    |leave _ h=>omega
   have:=((h.x 0).va _ _ (H.plt i 0 hi ahE) (H.slt i 0 hi ahE)).1 (.inl e0)
   exact⟨λ_=>by omega,λ_=>e⟩
  .rename_i e;exact⟨λq=>absurd q e,λq=>by omega⟩
 opsS:=fun(st:HmA) N i _ _ _=>pU T st.s st.m i
 arA:=fun(st:HmA) i r=>by cases r<;>rfl
 arL:=fun(st:HmA) i=>rfl
 ais:=fun(b:HmB) w a g lb (st:HmA) h=>by obtain⟨k,⟨rfl,rfl⟩,_⟩:=h;exact k.ar
 lk:=fun(b:HmB) w a g lb (st:HmA) h=>h.2.2.1.c1
 kd:=fun(b:HmB) w a g lb (st:HmA) h=>⟨7,h.2.2.1.blk.cell 0,rfl⟩
 fpa:=fun(b:HmB) w a g lb (st:HmA) h=>⟨λx hx=>(h.2.2.1.fl x hx).2,h.2.2.1.hw⟩
 far:=fun(b:HmB) w a g lb (st:HmA) w' S h t hS=>by
  obtain⟨k,hc,hd,hl⟩:=h
  have h9:∀x∈S,b.hi<=x\/x<b.bt:=hS
  exact⟨k.turns t (λi m I=>by have:=hl i I;have:=h9 i m;omega) (λi m hm=>by have:=hd.fl i hm;have:=h9 i m;omega),hc,hd.far t h9,hl⟩
 cS:=fun(b:HmB) w a g lb (st:HmA) N i h hk hN hi=>by
  unfold lkB at hN
  obtain⟨k,hc,hd,hl⟩:=h
  obtain⟨⟨O,hI⟩,Y⟩:=hk
  obtain⟨O',XQ⟩:∃O,d9 T bud (stepI T bud st.m i) O:=hI.act H I.1 0 (i:Int)
  refine(nQ .hm hd.c1 hd.c2 hi (R:=λr w'=>r=dg (sv st.m.S i) (sv (stepI T bud st.m i).S i)/\aU b.B w' b.x T bud (jB T st.s st.m i) (stepI T bud st.m i)/\aa (mvL b.x T) w w') λW bw=>?_).mono ?_
  .refine(FZ (k.below bw) H hI I ahE (i:Int)).mono ?_
   rintro e w' ⟨rfl,k2,_,t2⟩
   exact⟨_,rfl,by rw[(hI.okN hi).2,(XQ.okN hi).2];rfl,k2,(aa.of_below bw).trans t2⟩
  .exact abk
 cA:=fun(b:HmB) w a g lb (st:HmA) N i r h hk hN hi=>by
  obtain⟨k,hc,hd,hl⟩:=h
  obtain⟨⟨O,hI⟩,Y⟩:=hk
  refine(x9 .hm hd.c1 hd.c2 hi r (R:=λq w'=>q=decide ((sv st.m.S i).pc=0/\(r=true->(false:Bool)=true))/\(aU b.B w' b.x T bud (if r then st else⟨st.s,kI T st.m i⟩:HmA).s (if r then st else⟨st.s,kI T st.m i⟩:HmA).m)/\aa (mvL b.x T) w w') (λV W bw=>?_) (λV W bw=>?_)).mono ?_
  .subst V
   refine(Gh (k.below bw) H (i:Int)).mono ?_
   rintro e w' ⟨rfl,k2,t2⟩
   exact⟨_,rfl,by rw[(hI.okN hi).2];simp[(hI.okN hi).1],k2,(aa.of_below bw).trans t2⟩
  .exact aaE
  .exact abk
 cL:=fun(b:HmB) w a g lb (st:HmA) N i h hk hN hi=>by
  obtain⟨k,hc,hd,hl⟩:=h
  obtain⟨⟨O,hI⟩,Y⟩:=hk
  refine(kA .hm hd.c1 hd.c2 hi (R:=λq w'=>q=decide ((sv st.m.S i).pc=10)/\aU b.B w' b.x T bud st.s (gw T bud st.m i)/\aa (mvL b.x T) w w') λW bw=>?_).mono ?_
  .refine(Dt (k.below bw) H hI I (i:Int)).mono ?_
   rintro e w' ⟨rfl,k2,t2⟩
   exact⟨_,rfl,by rw[(hI.okN hi).2],k2,(aa.of_below bw).trans t2⟩
  .exact abk
 cP:=fun(b:HmB) w a g lb (st:HmA) i h hi=>nO .hm h.2.2.1.c1 h.2.2.1.c2 hi _ λW bw=>by
  have:=jM (h.1.below bw) (i:Int)
  rwa [dL (by rw[h.1.sn];exact hi)]at this
 cC:=fun(b:HmB) w a g lb (st:HmA) i h hi=>si .hm h.2.2.1.c1 h.2.2.1.c2 hi _ λW bw=>by
  have:=CX (h.1.below bw) H (i:Int)
  have hl:i<st.m.S.length:=by rw[h.1.sn];exact hi
  have mP:okI st.m.S (i:Int):=⟨by omega,by omega⟩
  rw[show kz T st.m (i:Int)=(Bg T bud).cn st i by
   unfold kz
   rw[dL hl]
   show _=if (sv st.m.S i).pc=10 then(st.m.sp (T.pl i 0) (T.sl i 0)).a else 0
   simp only[mP,true_and,Int.toNat_natCast]]at this
  exact this
end
end Go.Proofs.YtglokdbiggbkjaaGreat
