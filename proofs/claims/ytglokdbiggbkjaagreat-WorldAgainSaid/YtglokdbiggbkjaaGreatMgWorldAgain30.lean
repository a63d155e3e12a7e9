/- Joined texts. -/
import Derived.Deep.DeepCutAuto
import Derived.Test.YtglokdbiggbkjaaGreatMgWorldAgain0
import Derived.Test.YtglokdbiggbkjaaGreatMgWorldAgain29
set_option linter.unusedVariables false
set_option linter.unusedSimpArgs false
set_option linter.defProp false
set_option maxRecDepth 100000
set_option maxHeartbeats 16000000
open Go.Proofs.Tryz
namespace Go.Proofs.YtglokdbiggbkjaaGreat
open Go.IntKind(i64)
open Go.Value(int bool slice agg tuple pointer)
open Go.Ending(returned)
open Go.Obj(cells)
variable{row:Option Nat}{w w':World}{base n q:Nat}{v:Value}{xs:List Value}
section
open Go Go.RowKit Go.Maps
def CA:Option Nat->List Nat
 |none=>[]
 |some j=>[j]
def i2{i:Nat}(h:i∈CA row):∃j,row=some j/\i=j:=by
 cases row with
 |none=>cases h
 |some j=>exact⟨j,rfl,by simpa[CA]using h⟩
def aa.ofRow(hg:w.grownBy w' row):aa (CA row) w w':=by
 cases row with
 |none=>exact⟨hg.os,hg.tape,hg.output,hg.size,λi hi _=>hg.block i hi ahq⟩
 |some r=>exact aa.grown hg
def Gj{e:TypeId}{sz:Nat}(h:w.ownsRow base e sz v n xs)(H:v.ownBlock=some q):∃cs fr,w.heap[q]? =some (.cells cs e fr):=by
 rcases h.2 with⟨rfl,_⟩|⟨g,cap,O,rfl,I,hc,r⟩
 .simp[Value.ownBlock]at H
 .have e:g=q:=by simpa[Value.ownBlock]using H
  subst e;exact⟨_,_,hc⟩
section
variable{M:LkM n}{X:WoB M}{pls:List Pl4}{w0:World}{mb:Nat}{l:List (Int×Nat)}{x:M.σ×(Int->Md)}{N k:Nat}{O7:M.σ}
def RnR.apart(h:RnR X pls w0 w mb l x N k){m:Nat}(Y:w.ownsRow base 55 4 v m xs)(O:v.ownBlock=some q):q≠mb/\∀u b,gk l u=some b->q<b\/b+6<=q:=by
 obtain⟨cs,fr,hg⟩:=Gj Y O;constructor;.rintro rfl;obtain⟨_,_,hm,_⟩:=h.mp;rw[hg]at hm;cases hm
 .intro u b I;have H:=(h.md u b I).1;apply Classical.byContradiction;intro V;have hc:q=b\/q=b+1\/q=b+2\/q=b+3\/q=b+4\/q=b+5:=by omega
  have k0:=H.k0;have k1:=H.k1;have k2:=H.k2;have k3:=H.k3;have k4:=H.k4;have k5:=H.k5;unfold Blk at k0 k1 k2 k3 k4 k5;rcases hc with rfl|rfl|rfl|rfl|rfl|rfl
  .rw[hg]at k0;cases k0
  .rw[hg]at k1;cases k1
  .rw[hg]at k2;cases k2
  .rw[hg]at k3;cases k3
  .rw[hg]at k4;cases k4
  .rw[hg]at k5;cases k5
def ED(G:M.Good)(x:M.σ×(Int->Md))(t:Int):∃r,∀W,bj X W x.1->E 28 #[lkP X.wb,J t] W λe w'=>e= returned (tuple #[J (M.sttI x.1 t),.bool r])/\Below W.heap.size W w':=by
 unfold LkM.sttI;by_cases hi:0<=t/\t<n;.obtain⟨j,rfl⟩:=Int.eq_ofNat_of_zero_le hi.1;rw[if_pos hi];exact⟨_,λW k=>my G k j ahp⟩
 .rw[if_neg hi];exact⟨false,λW k=>EE G k t hi⟩
def JI(G:M.Good)(h:bj X w O7)(hk:M.ok O7 N){pls:List Pl4}{L:List Int}(hN:N+L.length<=lkB){bl off cap pbl poff ad:Nat}(LO:∀W,aa (M.fp X.b) w W->∀(k:Nat) (t:Int),L[k]? =some t->Z W bl (off+k) (J t))(Pw:∀W,aa (M.fp X.b) w W->∀(k:Nat) (p:Pl4),pls[k]? =some p->Z W pbl (poff+k*4) (J p.rest)/\Z W pbl (poff+k*4+1) (J p.stay)/\Z W pbl (poff+k*4+2) (J p.times)/\Z W pbl (poff+k*4+3) (.bool p.read))(Rf:pls.length<=1000000):E 60 #[lkP X.wb,slice (some ⟨pbl,poff,none⟩) pls.length ad,slice (some ⟨bl,off,none⟩) L.length cap] w λe w'=>∃v,e= returned v/\RdL w' v 4 encE (M.runE pls (O7,λ_=>⟨-1,0,0⟩) L)/\(∀q,v.ownBlock=some q->w.heap.size<=q)/\bj X w' (M.runB pls (O7,λ_=>⟨-1,0,0⟩) L L.length).1/\aa (M.fp X.b) w w':=by
  obtain⟨i0,hi,J5,J7,J2⟩:=info_parts Tryz.infoEvt;refine ajg ?_;intro HI;have KW:=qh (h.lo G);refine ajY ?_;intro HM;have NO:=qh LO;have Va:=qh Pw;have HG:=qh G;have HH:=qh (And.intro h hk);obtain⟨m,hm⟩:=LE L.length;have Ps:m<=1000000:=by unfold lkB at hN;omega
  have HN:=qh (show ∀k,k<m->N+k<lkB by omega);rw[<-hm];have Qk:=qh hm;obtain⟨I,UF⟩:=LE ((O7,λ_:Int=>(⟨-1,0,0⟩:Md)));rw[<-UF];obtain⟨pn,Um⟩:=LE pls.length;rw[<-Um]at Rf ⊢;have ab:=qh Um;have Yq:=qh UF;clear h LO Pw hi J5 J7 J2 hk G hm hN UF Um;unfold lkP;have ZQ:(Instr.makeMap 196 none).run prog w= .ok (.map (some w.heap.size)) (w.alloc (.map #[] 0)):=rfl;go_enter func60,ntmps60;go_wp2;clear ZQ
  have HS:=qh (show ∃l,RnR X pls w (w.alloc (.map #[] 0)) w.heap.size l (M.runB pls I L 0) N 0 from⟨[],by
    have b0:=(Below.refl w.heap.size w).alloc (Nat.le_refl _) (.map #[] 0);rw[show M.runB pls I L 0=I from rfl,Yq.o]
    exact⟨HH.o.1.below HG.o b0,HH.o.2,⟨#[],0,heap_alloc_new w _,rfl⟩,λ_ _ q=>(by cases q),λ_ _ _ _ q=>(by cases q),λ_ _=>rfl,λ_=>by simp,Nat.le_refl _,aa.of_below b0,HM.o⟩⟩)
  go_loopw [8,10,11,12,13,14,15,19] (λo _ _ _ _ _ _ i wr=>∃(k:Nat) (l:List (Int×Nat)),i= J k/\k<=m/\RnR X pls w wr w.heap.size l (M.runB pls I L k) N k/\wr.ownsRow w.heap.size 55 4 o k (((M.runE pls I L).take k).flatMap encE)) (λ_ _ _ _ _ _ _ i _=>m-(intOf i).toNat);case atStart=>obtain⟨l,hl⟩:=HS.o;exact⟨0,l,rfl,by omega,hl,World.ownsRow_nil _ _ _ _⟩
  case round=>
    clear HS;obtain⟨k,l,rfl,hk,O,r'⟩:=hrel;obtain⟨H,rfl⟩:∃H:World,H=wr:=⟨_,rfl⟩;by_cases F':k<m
    . obtain⟨t,hp⟩:=ai (show k<L.length by have:=Qk.o;omega);have c0:=NO.o H O.tn k t hp;have LL:=CB (M:=M) (pls:=pls) (x:=I) hp;have PB:=qr (M:=M) (pls:=pls) (x:=I) hp;have Ob:=qh (show((M.runE pls I L).take (k+1)).flatMap encE=((M.runE pls I L).take k).flatMap encE++encE (M.runS pls (M.runB pls I L k) t).1 by rw[a7 LL,List.flatMap_append];simp);have Of:=qh PB;have PR:=HN.o k F';obtain⟨xk,W8⟩:=LE (M.runB pls I L k);rw[<-W8]at O Ob Of;obtain⟨rs,VT⟩:=ED (X:=X) HG.o xk t;have KZ:=qh VT;obtain⟨z,hz⟩:=LE (M.sttI xk.1 t);rw[<-hz]at KZ;obtain⟨A5,c5,rfl⟩:=a8 r';obtain⟨P,hP⟩:=LE (jl pls M.rd t);obtain⟨⟨wt,m2⟩,SJ⟩:∃q,q=ju P (xk.2 t) z:=⟨_,rfl⟩;obtain⟨⟨ev,s2⟩,SA⟩:∃q,q=M.pick xk.1 (t,wt):=⟨_,rfl⟩;have VR:M.runS pls xk t=(ev,s2,λj=>if j=t then m2 else xk.2 j):=(by unfold LkM.runS;rw[<-hP,<-hz,<-SJ];simp only;rw[<-SA]);rw[VR]at Ob Of;simp only at Ob Of;have MO:=C4 P (xk.2 t) z (k:=k) (O.le t);rw[<-SJ]at MO;have MY:=qh (And.intro (O.le t) MO);have MZ:=qh (HG.o.pick O.ok PR (t,wt)).1;rw[<-SA]at MZ;have Pc:=qh (λW (h:bj X W xk.1)=>doW HG.o h O.ok PR (t,wt));rw[<-SA]at Pc;unfold evV lkP at Pc;simp only at Pc;have HP:=qh hP;have OH:=qh (λW b (h:lD W b P (xk.2 t)) (hk:0<=(xk.2 t).picked/\(xk.2 t).picked<=1000000) (ha:0<=(xk.2 t).asked/\(xk.2 t).asked<=1000000)=>Jk h z hk ha);rw[<-SJ]at OH;simp only at OH;have HR:=qh (And.intro O r');have ax:=O.tn.size;have UD:=O.mlt;clear hp LL PB W8 VT hz hP r' SJ SA VR MO PR;unfold lkP at KZ;cases KF:gk l t
      . have St:=O.mp.no KF;have Nl:=qh KF;have HW:=qh (λgs=>GK gs P);unfold plV lO at HW;have SY:=qh (λq hq=>O.apart HR.o.2 (q:=q) hq);have c3:=O.is.wd.cell 3;have KL:=qh (λgs (b:Below H.heap.size H gs)=>show gs.cell? ⟨X.wb,3,none⟩=some (.bool M.rd)from(O.is.below HG.o b).wd.cell 3);by_cases hi:0<=t/\t<pn
        . obtain⟨j,rfl⟩:=Int.eq_ofNat_of_zero_le hi.1;obtain⟨p,hp⟩:=ai (show j<pls.length by have:=ab.o;omega);obtain⟨p0,p1,p2,p3⟩:=Va.o H O.tn j p hp;have OM:P={p with read:=p.read&&M.rd}:=(by rw[HP.o];unfold jl;rw[if_pos (by have:=ab.o;omega),Int.toNat_natCast,List.getD_eq_getElem?_getD,hp];rfl);obtain⟨r1,r2,r3,r4⟩:=p;simp only at p0 p1 p2 p3 OM;have t1:(0:Int)<=j:=(by omega);have t2:(j:Int)<pn:=hi.2;rw[OM]at HW;simp only at HW;have NM:=qh (λgs (b:Below H.heap.size H gs)=>Va.o gs (O.tn.trans (aa.of_below b)) j _ hp);have LX:=qh O;have Lk:=qh OM;clear hp hi O KF OM p0 p1 p2 p3;go_upto_region 10 with fail;have b1:=(Below.refl H.heap.size H).alloc (Nat.le_refl _) (cells #[J 0,J 0,J 0,bool false] 78);have k1:=Blk.new H 78 #[J 0,J 0,J 0,bool false];obtain⟨V1,TK⟩:=LE (H.alloc (cells #[J 0,J 0,J 0,bool false] 78));rw[<-TK]at b1 k1 ⊢;obtain⟨p0,p1,p2,p3⟩:=NM.o V1 b1;have z0:=k1.free 0;have z1:=k1.free 1;have z2:=k1.free 2;have z3:=k1.free 3;have y0:=k1.cell 0;have y1:=k1.cell 1;have y2:=k1.cell 2;have y3:=k1.cell 3;have Vp:=qh (And.intro b1 k1);have al:=qh TK;clear b1 k1 TK;simp only at p0 p1 p2 p3;go_upto_region 11 with fail
          have h2:Below H.heap.size H ((((V1.setCell ⟨H.heap.size,0,none⟩ (J r1)).setCell ⟨H.heap.size,1,none⟩ (J r2)).setCell ⟨H.heap.size,2,none⟩ (J r3)).setCell ⟨H.heap.size,3,none⟩ (.bool r4))/\Blk ((((V1.setCell ⟨H.heap.size,0,none⟩ (J r1)).setCell ⟨H.heap.size,1,none⟩ (J r2)).setCell ⟨H.heap.size,2,none⟩ (J r3)).setCell ⟨H.heap.size,3,none⟩ (.bool r4)) H.heap.size 78 #[J r1,J r2,J r3,.bool r4]:=
            ⟨(((Vp.o.1.setCell (Nat.le_refl _) _).setCell (Nat.le_refl _) _).setCell (Nat.le_refl _) _).setCell (Nat.le_refl _) _,Vp.o.2.set4⟩
          obtain⟨V2,QK⟩:=LE ((((V1.setCell ⟨H.heap.size,0,none⟩ (J r1)).setCell ⟨H.heap.size,1,none⟩ (J r2)).setCell ⟨H.heap.size,2,none⟩ (J r3)).setCell ⟨H.heap.size,3,none⟩ (.bool r4));rw[<-QK]at h2 ⊢;have MF:=qh h2;clear z0 z1 z2 z3 y0 y1 y2 y3 p0 p1 p2 p3 c3 h2 QK;have c3:=KL.o V2 MF.o.1;have y3:=MF.o.2.cell 3;have z3:=MF.o.2.free 3;cases r4;all_goals simp only[Bool.false_and,Bool.true_and]at HW Lk;go_upto_region 12 with fail
          . have h3:Below H.heap.size H (V2.setCell ⟨H.heap.size,3,none⟩ (bool false))/\Blk (V2.setCell ⟨H.heap.size,3,none⟩ (bool false)) H.heap.size 78 #[J r1,J r2,J r3,bool false]:=⟨MF.o.1.setCell (Nat.le_refl _) _,MF.o.2.set_ 3 _⟩;obtain⟨V3,ON⟩:=LE (V2.setCell ⟨H.heap.size,3,none⟩ (bool false));rw[<-ON]at h3 ⊢;have LH:=qh h3;clear h3 ON c3 y3 z3;have MB:=LH.o.1.size;have e0:=LH.o.2.cell 0;have e1:=LH.o.2.cell 1;have e2:=LH.o.2.cell 2;have e3:=LH.o.2.cell 3;go_wp2_with fail;refine(HW.o _).mono ?_;rintro en w6 ⟨rfl,k6,b6⟩;refine ajE ?_;intro No w7 Rh m7 t7 PU
            have La:=qh (show gk (l++[((j:Int),V3.heap.size)]) (j:Int)=some V3.heap.size/\RnR X pls w w7 w.heap.size (l++[((j:Int),V3.heap.size)]) xk N k/\w7.ownsRow w.heap.size 55 4 (.slice A5 k c5) k (((M.runE pls I L).take k).flatMap encE)from by
              have tA:aa [w.heap.size] H w7:=(aa.of_below No).trans t7;refine⟨by rw[gF Nl.o,if_pos rfl],LX.o.add HG.o Nl.o tA m7 ?_ ⟨MB,Nat.le_trans ahp t7.size⟩,aa.own HR.o.2 tA (λq hq m=>(SY.o q hq).1 (by simpa using m))⟩;rw[<-HP.o,Lk.o]
              exact k6.far t7 (λy hy=>by simp at hy;subst hy;omega))
            clear k6 b6 No m7 t7 PU MB e0 e1 e2 e3;unfold lO at Rh;go_wp2_with fail;refine ai7 ?_;intro w2 b2 K2;have LD:=qh (K2.o.1.md (j:Int) V3.heap.size La.o.1);have Nk:=qh (OH.o _ V3.heap.size aib ahT ahT);go_wp2_with fail;refine ajp ?_;intro w3 k3 KI K3;clear Nk;go_wp2_with fail;refine aiR ?_;intro w4 k4 LU JY K4;go_wp2_with (at_builtin;refine wpList_append_own _ rfl _ _ 70 rfl w.heap.size 55 i0 (agg #[J 0,J 0,bool false,J 0]) 4 32 Tryz.underlying70 HI.o.1 HI.o.2.1 HI.o.2.2.1 HI.o.2.2.2 rfl ahr _ _ _ rfl (K4.o.2.alloc _) ⟨w4.heap.size,0,none⟩ 1 1 (encE ev) rfl rfl (iG w4 ev rfl) (jD _) ?c3 ?c4 ?c5 ?_);case c3=>unfold maxLen;omega
            case c4=>omega
            case c5=>simp;omega
            intro v' w5 h5 Mu _;refine ai2 ?_;intro b4
            have HF:=qh (show RnR X pls w w5 w.heap.size _ (M.runB pls I L (k+1)) N (k+1)/\w5.ownsRow w.heap.size 55 4 v' (k+1) (((M.runE pls I L).take (k+1)).flatMap encE)from by
              refine ajB ?_;intro r4 o4;refine⟨r4.far HG.o (aa.ofRow Mu) (λq hq=>?_),h5⟩;obtain⟨j,hj,rfl⟩:=i2 hq;have:=r4.apart o4 hj
              exact⟨(o4.lt _ hj).1,this⟩)
            clear h5 Mu b4;go_wp2;go_roundw;case rel=>exact⟨k+1,_,by go_num,by omega,HF.o.1,HF.o.2⟩
            case measure=>simp[intOf];omega
          . have h3:Below H.heap.size H (V2.setCell ⟨H.heap.size,3,none⟩ (.bool M.rd))/\Blk (V2.setCell ⟨H.heap.size,3,none⟩ (.bool M.rd)) H.heap.size 78 #[J r1,J r2,J r3,.bool M.rd]:=⟨MF.o.1.setCell (Nat.le_refl _) _,MF.o.2.set_ 3 _⟩;obtain⟨V3,ON⟩:=LE (V2.setCell ⟨H.heap.size,3,none⟩ (.bool M.rd));rw[<-ON]at h3 ⊢;have LH:=qh h3;clear h3 ON c3 y3 z3;have MB:=LH.o.1.size;have e0:=LH.o.2.cell 0;have e1:=LH.o.2.cell 1;have e2:=LH.o.2.cell 2;have e3:=LH.o.2.cell 3;go_wp2_with fail;refine(HW.o _).mono ?_;rintro en w6 ⟨rfl,k6,b6⟩;refine ajE ?_;intro No w7 Rh m7 t7 PU
            have La:=qh (show gk (l++[((j:Int),V3.heap.size)]) (j:Int)=some V3.heap.size/\RnR X pls w w7 w.heap.size (l++[((j:Int),V3.heap.size)]) xk N k/\w7.ownsRow w.heap.size 55 4 (.slice A5 k c5) k (((M.runE pls I L).take k).flatMap encE)from by
              have tA:aa [w.heap.size] H w7:=(aa.of_below No).trans t7;refine⟨by rw[gF Nl.o,if_pos rfl],LX.o.add HG.o Nl.o tA m7 ?_ ⟨MB,Nat.le_trans ahp t7.size⟩,aa.own HR.o.2 tA (λq hq m=>(SY.o q hq).1 (by simpa using m))⟩;rw[<-HP.o,Lk.o]
              exact k6.far t7 (λy hy=>by simp at hy;subst hy;omega))
            clear k6 b6 No m7 t7 PU MB e0 e1 e2 e3;unfold lO at Rh;go_wp2_with fail;refine ai7 ?_;intro w2 b2 K2;have LD:=qh (K2.o.1.md (j:Int) V3.heap.size La.o.1);have Nk:=qh (OH.o _ V3.heap.size aib ahT ahT);go_wp2_with fail;refine ajp ?_;intro w3 k3 KI K3;clear Nk;go_wp2_with fail;refine aiR ?_;intro w4 k4 LU JY K4;go_wp2_with (at_builtin;refine wpList_append_own _ rfl _ _ 70 rfl w.heap.size 55 i0 (agg #[J 0,J 0,bool false,J 0]) 4 32 Tryz.underlying70 HI.o.1 HI.o.2.1 HI.o.2.2.1 HI.o.2.2.2 rfl ahr _ _ _ rfl (K4.o.2.alloc _) ⟨w4.heap.size,0,none⟩ 1 1 (encE ev) rfl rfl (iG w4 ev rfl) (jD _) ?c3 ?c4 ?c5 ?_);case c3=>unfold maxLen;omega
            case c4=>omega
            case c5=>simp;omega
            intro v' w5 h5 Mu _;refine ai2 ?_;intro b4
            have HF:=qh (show RnR X pls w w5 w.heap.size _ (M.runB pls I L (k+1)) N (k+1)/\w5.ownsRow w.heap.size 55 4 v' (k+1) (((M.runE pls I L).take (k+1)).flatMap encE)from by
              refine ajB ?_;intro r4 o4;refine⟨r4.far HG.o (aa.ofRow Mu) (λq hq=>?_),h5⟩;obtain⟨j,hj,rfl⟩:=i2 hq;have:=r4.apart o4 hj
              exact⟨(o4.lt _ hj).1,this⟩)
            clear h5 Mu b4;go_wp2;go_roundw;case rel=>exact⟨k+1,_,by go_num,by omega,HF.o.1,HF.o.2⟩
            case measure=>simp[intOf];omega
        . have OM:P=⟨0,0,0,false⟩:=(by rw[HP.o];unfold jl;rw[if_neg (by rw[<-ab.o];exact hi)]);rw[OM]at HW;simp only at HW;have LX:=qh O;have Lk:=qh OM;have V:(0<=t/\¬t<(pn:Int))\/¬0<=t:=(by omega);clear O KF OM hi;rcases V with⟨t0,t1⟩|t0
          all_goals
            go_upto_region 11 with fail
            have h2:Below H.heap.size H (H.alloc (cells #[J 0,J 0,J 0,bool false] 78))/\Blk (H.alloc (cells #[J 0,J 0,J 0,bool false] 78)) H.heap.size 78 #[J 0,J 0,J 0,bool false]:=
              ⟨(Below.refl H.heap.size H).alloc (Nat.le_refl _) _,Blk.new H 78 #[J 0,J 0,J 0,bool false]⟩
            obtain⟨V2,QK⟩:=LE (H.alloc (cells #[J 0,J 0,J 0,bool false] 78));rw[<-QK]at h2 ⊢;have MF:=qh h2;clear c3 h2 QK;have c3:=KL.o V2 MF.o.1;have y3:=MF.o.2.cell 3;have z3:=MF.o.2.free 3;go_upto_region 12 with fail;have h3:Below H.heap.size H (V2.setCell ⟨H.heap.size,3,none⟩ (bool false))/\Blk (V2.setCell ⟨H.heap.size,3,none⟩ (bool false)) H.heap.size 78 #[J 0,J 0,J 0,bool false]:=⟨MF.o.1.setCell (Nat.le_refl _) _,MF.o.2.set_ 3 _⟩;obtain⟨V3,ON⟩:=LE (V2.setCell ⟨H.heap.size,3,none⟩ (bool false));rw[<-ON]at h3 ⊢;have LH:=qh h3;clear h3 ON c3 y3 z3;have MB:=LH.o.1.size;have e0:=LH.o.2.cell 0;have e1:=LH.o.2.cell 1;have e2:=LH.o.2.cell 2;have e3:=LH.o.2.cell 3;go_wp2_with fail;refine(HW.o _).mono ?_;rintro en w6 ⟨rfl,k6,b6⟩;refine ajE ?_;intro No w7 Rh m7 t7 PU
            have La:=qh (show gk (l++[(t,V3.heap.size)]) t=some V3.heap.size/\RnR X pls w w7 w.heap.size (l++[(t,V3.heap.size)]) xk N k/\w7.ownsRow w.heap.size 55 4 (.slice A5 k c5) k (((M.runE pls I L).take k).flatMap encE)from by
              have tA:aa [w.heap.size] H w7:=(aa.of_below No).trans t7;refine⟨by rw[gF Nl.o,if_pos rfl],LX.o.add HG.o Nl.o tA m7 ?_ ⟨MB,Nat.le_trans ahp t7.size⟩,aa.own HR.o.2 tA (λq hq m=>(SY.o q hq).1 (by simpa using m))⟩;rw[<-HP.o,Lk.o]
              exact k6.far t7 (λy hy=>by simp at hy;subst hy;omega))
            clear k6 b6 No m7 t7 PU MB e0 e1 e2 e3;unfold lO at Rh;go_wp2_with fail;refine ai7 ?_;intro w2 b2 K2;have LD:=qh (K2.o.1.md t V3.heap.size La.o.1);have Nk:=qh (OH.o _ V3.heap.size aib ahT ahT);go_wp2_with fail;refine Pi Nk.o λw3 k3=>?_;have KI:=k3.o.2.size;have K3:=qh (And.intro k3.o.1 (And.intro k3.o.2 (And.intro (K2.o.1.is.far HG.o k3.o.2 (λq hq=>by have:=LD.o.2.1;have:=HM.o;simp at hq;omega)) (aa.own K2.o.2 k3.o.2 (λq hq m=>by have:=(K2.o.1.apart K2.o.2 hq).2 t V3.heap.size La.o.1;simp at m;omega)))));clear Nk;go_wp2_with fail;refine aiR ?_;intro w4 k4 LU JY K4;go_wp2_with (at_builtin;refine wpList_append_own _ rfl _ _ 70 rfl w.heap.size 55 i0 (agg #[J 0,J 0,bool false,J 0]) 4 32 Tryz.underlying70 HI.o.1 HI.o.2.1 HI.o.2.2.1 HI.o.2.2.2 rfl ahr _ _ _ rfl (K4.o.2.alloc _) ⟨w4.heap.size,0,none⟩ 1 1 (encE ev) rfl rfl (iG w4 ev rfl) (jD _) ?c3 ?c4 ?c5 ?_);case c3=>unfold maxLen;omega
            case c4=>omega
            case c5=>simp;omega
            intro v' w5 h5 Mu _;refine ai2 ?_;intro b4
            have HF:=qh (show RnR X pls w w5 w.heap.size _ (M.runB pls I L (k+1)) N (k+1)/\w5.ownsRow w.heap.size 55 4 v' (k+1) (((M.runE pls I L).take (k+1)).flatMap encE)from by
              refine ajB ?_;intro r4 o4;refine⟨r4.far HG.o (aa.ofRow Mu) (λq hq=>?_),h5⟩;obtain⟨j,hj,rfl⟩:=i2 hq;have:=r4.apart o4 hj
              exact⟨(o4.lt _ hj).1,this⟩)
            clear h5 Mu b4;go_wp2;go_roundw;case rel=>exact⟨k+1,_,by go_num,by omega,HF.o.1,HF.o.2⟩
            case measure=>simp[intOf];omega
      . rename_i b;have ZL:=O.mp.get KF;have La:=qh (And.intro KF HR.o);have O9:=qh (show ∃gs l' b,gs=H/\l'=l from⟨H,l,b,rfl,rfl⟩);clear O KF;unfold lO at ZL;go_wp2_with fail;refine ai7 ?_;intro w2 b2 K2;have LD:=qh (K2.o.1.md t b La.o.1);have Nk:=qh (OH.o _ b aib ahT ahT);go_wp2_with fail;refine Pi Nk.o λw3 k3=>?_;have KI:=k3.o.2.size;have K3:=qh (And.intro k3.o.1 (And.intro k3.o.2 (And.intro (K2.o.1.is.far HG.o k3.o.2 (λq hq=>by have:=LD.o.2.1;have:=HM.o;simp at hq;omega)) (aa.own K2.o.2 k3.o.2 (λq hq m=>by have:=(K2.o.1.apart K2.o.2 hq).2 t b La.o.1;simp at m;omega)))));clear Nk;go_wp2_with fail;refine aiR ?_;intro w4 k4 LU JY K4;go_wp2_with (at_builtin;refine wpList_append_own _ rfl _ _ 70 rfl w.heap.size 55 i0 (agg #[J 0,J 0,bool false,J 0]) 4 32 Tryz.underlying70 HI.o.1 HI.o.2.1 HI.o.2.2.1 HI.o.2.2.2 rfl ahr _ _ _ rfl (K4.o.2.alloc _) ⟨w4.heap.size,0,none⟩ 1 1 (encE ev) rfl rfl (iG w4 ev rfl) (jD _) ?c3 ?c4 ?c5 ?_);case c3=>unfold maxLen;omega
        case c4=>omega
        case c5=>simp;omega
        intro v' w5 h5 Mu _;refine ai2 ?_;intro b4
        have HF:=qh (show RnR X pls w w5 w.heap.size l (M.runB pls I L (k+1)) N (k+1)/\w5.ownsRow w.heap.size 55 4 v' (k+1) (((M.runE pls I L).take (k+1)).flatMap encE)from by
          refine ajB ?_;intro r4 o4;refine⟨r4.far HG.o (aa.ofRow Mu) (λq hq=>?_),h5⟩;obtain⟨j,hj,rfl⟩:=i2 hq;have:=r4.apart o4 hj
          exact⟨(o4.lt _ hj).1,this⟩)
        clear h5 Mu b4;go_wp2;go_roundw;case rel=>exact⟨k+1,_,by go_num,by omega,HF.o.1,HF.o.2⟩
        case measure=>simp[intOf];omega
    . obtain rfl:k=m:=by omega
      have HF:=qh (And.intro O r');clear O r';go_wp2;go_ret;have hl:(M.runE pls I L).length=k:=(by rw[CC];exact Qk.o.symm);have e:(M.runE pls I L).take k=M.runE pls I L:=(by rw[<-hl,List.take_length]);have Y:=HF.o.2;rw[e]at Y;exact⟨_,rfl,RdL.of_own kU hl.symm ahN Y,λq hq=>(Y.lt q hq).1,HF.o.1.is,HF.o.1.tn⟩
end
end
end Go.Proofs.YtglokdbiggbkjaaGreat
