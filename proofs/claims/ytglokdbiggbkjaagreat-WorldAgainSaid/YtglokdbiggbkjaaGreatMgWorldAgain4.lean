/- Joined texts. -/
import Derived.Maps.AppendAt
import Derived.Deep.RegionHeld3
import Derived.Deep.DeepCutAuto
import Derived.Test.YtglokdbiggbkjaaGreatRows
import Derived.Tactics
import Derived.Tactics2
import Derived.Defers
import Derived.Laws.Pointers
import Derived.Laws.LoneSync
import Derived.RegionTactic
import Derived.RegionCalls
import Derived.ChangeAlike
import Derived.Deep.RegionLaw
import Derived.Deep.AppendLies
import Derived.Test.YtglokdbiggbkjaaGreatMgWorldAgain0
import Derived.Test.YtglokdbiggbkjaaGreatMgWorldAgain2
import Derived.Test.YtglokdbiggbkjaaGreatMgWorldAgain3
set_option linter.unusedVariables false
set_option linter.unusedSimpArgs false
set_option linter.defProp false
set_option maxRecDepth 100000
set_option maxHeartbeats 16000000
open Go.Proofs.Tryz
namespace Go.Proofs.YtglokdbiggbkjaaGreat
open Go.IntKind(i64)
open Go.Value(int bool slice agg tuple pointer)
open Go.Ending(returned)
open Go.Obj(cells)
variable{w w' w0 W w1:World}{S:List Nat}{row:Option Nat}{l P T:List Int}{k b sz i n' nd lo cT:Nat}{A:Option Addr}{v' vL vN vS:Value}{xs':List Value}{p x:Int}
section
open Go Go.RowKit Go.Maps
theorem Tryz.infoEvt:(prog.info? 55).map (λi=>(i.zero,i.size,i.bytes))=some (some (agg #[J 0,J 0,bool false,J 0]),4,32):=by kernel_rfl
def iG(w:World)(e:Ev){g:Nat}(hg:g=w.heap.size):∀j u,(encE e)[j]? =some u->(w.alloc (cells #[J e.kind,J e.thread,.bool e.read,J e.count] 55)).cell? ((⟨g,0,none⟩:Addr).add j)=some u:=by intro j u h;subst hg;refine ajX ?_;intro Ly;simpa[encE]using h
section
variable{n:Nat}{M:LkM n}{X:WoB M}{st C':M.σ}{N:Nat}
def aa.grownRow(h:aa S w0 w)(hg:w.grownBy w' row)(V:∀j,row=some j->w0.heap.size<=j):aa S w0 w':=
 ⟨hg.os.trans h.os,hg.tape.trans h.tape,hg.output.trans h.output,Nat.le_trans h.size hg.size,λi hi H=>(hg.block i (Nat.lt_of_lt_of_le hi h.size) (by intro e;have:=V i e.symm;omega)).trans (h.block i hi H)⟩
def bj.grown(G:M.Good)(h:bj X w st)(hg:w.grownBy w' row)(V:∀j,row=some j->X.hi<=j):bj X w' st:=by
 cases row with
 |none=>exact h.far G (S:=[]) ⟨hg.os,hg.tape,hg.output,hg.size,λi hi _=>hg.block i hi ahq⟩ ahq
 |some r=>exact h.far G (S:=[r]) (aa.grown hg) (λi hi=>by simp at hi;subst hi;exact V _ rfl)
def LkM.runA(M:LkM n)(st:M.σ)(l:List (Int×Int))(k:Nat):M.σ:=(l.take k).foldl (λs p=>(M.pick s p).2) st
def LkM.evs(M:LkM n)(st:M.σ):List (Int×Int)->List Ev
 |[]=>[]
 |p :: l=>(M.pick st p).1 :: M.evs (M.pick st p).2 l
def qp{l:List (Int×Int)}{p:Int×Int}(h:l[k]? =some p):M.runA st l (k+1)=(M.pick (M.runA st l k) p).2:=by unfold LkM.runA;rw[a7 h,List.foldl_append];rfl
def qN(l:List (Int×Int)):∀st:M.σ,(M.evs st l).length=l.length:=by
 induction l with
 |nil=>intro _;rfl
 |cons p l h=>intro st;simp[LkM.evs,h]
def DO{l:List (Int×Int)}:∀{st:M.σ} {k:Nat} {p:Int×Int},l[k]? =some p->(M.evs st l)[k]? =some (M.pick (M.runA st l k) p).1:=by
 induction l with
 |nil=>intro st k p h;simp at h
 |cons q l H=>
  intro st k p h;cases k with
  |zero=>simp at h;subst h;rfl
  |succ k=>exact H (st:=(M.pick st q).2) h
def LkM.Good.runA(G:M.Good)(h:M.ok st N)(l:List (Int×Int)):∀k,N+k<=lkB->M.ok (M.runA st l k) (N+k):=by
 intro k;induction k with
 |zero=>intro _;exact h
 |succ k I=>
  intro O;have h1:=I ahp;cases H:l[k]? with
  |none=>have e:M.runA st l (k+1)=M.runA st l k:=(by unfold LkM.runA;rw[List.take_add_one,H];simp);rw[e];exact G.okm _ _ h1
  |some p=>rw[qp H];exact(G.pick h1 ahp p).1
def Cs(G:M.Good)(h:bj X w st)(hk:M.ok st N){L:List (Int×Int)}(hN:N+L.length<=lkB){bl off cap:Nat}(LO:∀W,aa (M.fp X.b) w W->∀(k:Nat) (pk:Int×Int),L[k]? =some pk->Z W bl (off+k*2) (J pk.1)/\Z W bl (off+k*2+1) (J pk.2))(hA:L≠[]->A=some ⟨bl,off,none⟩:=by exact λ_=>rfl):E 44 #[lkP X.wb,.slice A L.length cap] w λe w'=>∃v,e= returned v/\RdL w' v 4 encE (M.evs st L)/\(∀q,v.ownBlock=some q->w.heap.size<=q)/\bj X w' (M.runA st L L.length)/\aa (M.fp X.b) w w':=by
  obtain⟨i0,hi,J5,J7,J2⟩:=info_parts Tryz.infoEvt;refine ajg ?_;intro HI;have KW:=qh (h.lo G);refine ajY ?_;intro HM;have H0:=qh h;have NO:=qh LO;have XE:=qh hA;have MZ:=qh (λk (q:k<=L.length)=>G.runA hk L k ahp);have HG:=qh G;obtain⟨m,hm⟩:=LE L.length;have Ps:m<=1000000:=by unfold lkB at hN;omega
  have HN:=qh (show ∀k,k<m->N+k<lkB by omega);rw[<-hm]at MZ ⊢;have Qk:=qh hm;clear h LO hi J5 J7 J2 hk G hm hN hA;unfold lkP;go_enter func44,ntmps44;go_wp2;go_loopw [5,7,10] (λo _ i wr=>∃k:Nat,i= J k/\k<=m/\bj X wr (M.runA st L k)/\aa (M.fp X.b) w wr/\wr.ownsRow w.heap.size 55 4 o k (((M.evs st L).take k).flatMap encE)) (λ_ _ i _=>m-(intOf i).toNat);case atStart=>exact⟨0,rfl,by omega,H0.o,aa.refl _ _,World.ownsRow_nil _ _ _ _⟩
  case round=>
    obtain⟨k,rfl,hk,Le,ht,r'⟩:=hrel;obtain⟨wo,rfl⟩:∃wo:World,wo=wr:=⟨_,rfl⟩;have Ki:=ht.size;by_cases F':k<m
    . obtain⟨pk,hp⟩:=ai (show k<L.length by have:=Qk.o;omega);obtain rfl:=XE.o (λe=>by rw[e]at hp;cases hp);obtain⟨c0,c1⟩:=NO.o wo ht k pk hp;have LL:=DO (M:=M) (st:=st) hp;have PB:=qp (M:=M) (st:=st) hp;have mP:=MZ.o k ahp;have PR:=HN.o k F';obtain⟨t,u⟩:=pk;simp only at c0 c1;have Kg:=(Below.refl wo.heap.size wo).alloc (Nat.le_refl _) (cells #[J t,J u] 58);have HD:=qh (doW HG.o (Le.below HG.o Kg) mP PR (t,u));have RO:=qh (ht.trans (aa.of_below (S:=M.fp X.b) Kg));have U5:=qh (r'.alloc (cells #[J t,J u] 58));obtain⟨A5,c5,rfl⟩:=a8 r';obtain⟨q,hq⟩:=LE (M.pick (M.runA st L k) (t,u));rw[<-hq]at LL PB HD;obtain⟨ev,s2⟩:=q;simp only at LL PB HD;have Ob:=qh (show((M.evs st L).take (k+1)).flatMap encE=((M.evs st L).take k).flatMap encE++encE ev by rw[a7 LL,List.flatMap_append];simp);have Of:=qh PB;unfold lkP evV at HD;clear hp LL mP Kg ht Le PB hq r' PR;go_wp2_with fail;refine Pi HD.o λw2 k2=>?_;have JY:=k2.o.2.size;have LQ:=qh (aa.own U5.o k2.o.2 (λq hq hm=>by have:=(U5.o.lt q hq).1;have:=KW.o q hm;have:=HM.o;omega));have UZ:=qh (And.intro k2.o.1 (RO.o.trans k2.o.2));have hs02:=(RO.o.trans k2.o.2).size;go_wp2_with (at_builtin;refine wpList_append_own _ rfl _ _ 70 rfl w.heap.size 55 i0 (agg #[J 0,J 0,bool false,J 0]) 4 32 Tryz.underlying70 HI.o.1 HI.o.2.1 HI.o.2.2.1 HI.o.2.2.2 rfl ahr _ _ _ rfl (LQ.o.alloc _) ⟨w2.heap.size,0,none⟩ 1 1 (encE ev) rfl rfl (iG w2 ev rfl) (jD _) ?c3 ?c4 ?c5 ?_);case c3=>unfold maxLen;omega
      case c4=>omega
      case c5=>simp;omega
      intro v' w3 h3 Kr _
      have HF:=qh (show bj X w3 (M.runA st L (k+1))/\aa (M.fp X.b) w w3/\w3.ownsRow w.heap.size 55 4 v' (k+1) (((M.evs st L).take (k+1)).flatMap encE)from by
        rw[Of.o,Ob.o]
        exact⟨(UZ.o.1.below HG.o ((Below.refl _ _).alloc (Nat.le_refl _) _)).grown HG.o Kr (λj hj=>Nat.le_trans HM.o (LQ.o.lt j hj).1),(UZ.o.2.alloc _).grownRow Kr (λj hj=>(LQ.o.lt j hj).1),h3⟩)
      clear h3 Kr;go_wp2;go_roundw;case rel=>exact⟨k+1,by go_num,by omega,HF.o.1,HF.o.2.1,HF.o.2.2⟩
      case measure=>simp[intOf];omega
    . obtain rfl:k=m:=by omega
      have HF:=qh (And.intro Le (And.intro ht r'));clear Le ht r';go_wp2;go_ret;have hl:(M.evs st L).length=k:=(by rw[qN];exact Qk.o.symm);have e:(M.evs st L).take k=M.evs st L:=(by rw[<-hl,List.take_length]);have Y:=HF.o.2.2;rw[e]at Y;exact⟨_,rfl,RdL.of_own kU hl.symm ahN Y,λq hq=>(Y.lt q hq).1,HF.o.1,HF.o.2.1⟩
end
end
section
open Go.RowKit
variable{v:Value}
def de{b':Nat}{e:TypeId}{n:Nat}{xs:List Value}(h:w.ownsRow b e sz v n xs)(I:b'<=b):w.ownsRow b' e sz v n xs:=by
 rcases h.2 with O|⟨g,cap,H,V,Y,q⟩
 .exact⟨h.1,.inl O⟩
 .exact⟨h.1,.inr ⟨g,cap,H,V,Nat.le_trans I Y,q⟩⟩
def dM(h:w.ownsRow b 3 1 v l.length (l.flatMap encI))(H:l.length<=140737488355328):RdL w v 1 encI l:=RdL.of_own jE rfl H h
def io(x:Int):∀u∈encI x,u.oneCell'=true:=by simp[encI,Value.oneCell']
def FS(h:k<P.length):(gq P P.length)[k]? =some (decide ((k:Int)∈P)):=by unfold gq;rw[i1 _ _ _ h,List.take_length]
def BI(H:k<P.length):dk P k=!decide ((k:Int)∈P):=by
 unfold dk;by_cases h:(k:Int)∈P;.simp[h]
 .simp[h,H]
def iJ(l:List Int)(x:Int):(l++[x]).flatMap encI=l.flatMap encI++encI x:=by simp
def oI(w:World)(v:Value)(P:List Int)(h:RdL w v 1 encI P)(ht:dT P=true)(Nq:P.length<=1000):E 83 #[v] w λe w'=>∃v',e= returned v'/\w'.ownsRow w.heap.size 3 1 v' (ac P).length ((ac P).flatMap encI)/\Below w.heap.size w w':=by
  obtain⟨i0,hi,J5,J7,J2⟩:=info_parts Tryz.infoIn;refine ajg ?_;intro HI;have HC:=qh (yE w v P h ht Nq);clear hi J5 J7 J2 h ht;go_enter func83,ntmps83;go_wp2_with fail;refine HC.o.mono ?_;rintro en w1 ⟨v',rfl,hR,I⟩;have HB:=qh I;have JZ:=I.size;clear I;obtain⟨A,cap,rfl,l1,l2,V⟩:=hR;have HR:=qh V;clear V;have Wu:(gq P P.length).length=P.length:=kh _ _;rw[Wu]at *;clear Wu;go_wp2;go_loopw [3,9] (λo i wr=>∃k:Nat,i= J k/\k<=P.length/\wr.ownsRow w1.heap.size 3 1 o (ak P k).length ((ak P k).flatMap encI)/\Below w1.heap.size w1 wr) (λ_ i _=>P.length-(intOf i).toNat);case atStart=>exact⟨0,rfl,by omega,World.ownsRow_nil _ _ _ _,Below.refl _ _⟩
  case round=>
    obtain⟨k,rfl,hk,O,Y⟩:=hrel;by_cases F':k<P.length
    . obtain⟨bl,off,rfl,KP,hc⟩:=HR.o (by rw[kh];omega);have c0:=(Y.cell (p:=⟨bl,off+k*1+0,none⟩) KP).trans (hc k _ (FS F') 0 _ rfl);simp only[Nat.add_zero,Nat.mul_one]at c0;have Lc:=a6 P k;have Ki:=Y.size;have HS:=qh (cz P k);have HL:=qh (BI F');have H:=qh (And.intro O Y);obtain⟨A9,c9,rfl⟩:=a8 O;clear hc Y;cases hm:decide ((k:Int)∈P)
      . rw[hm]at c0;have HM:=qh hm;clear hm;go_wp2_with (at_builtin;refine wpList_append_own _ rfl _ _ 22 rfl w1.heap.size 3 i0 (J 0) 1 8 Tryz.underlying22 HI.o.1 HI.o.2.1 HI.o.2.2.1 HI.o.2.2.2 rfl ahr _ _ _ rfl (O.alloc _) ⟨wr.heap.size,0,none⟩ 1 1 (encI k) rfl rfl (cell_one_new _ _ _) (io _) ?c3 ?c4 ?c5 ?_);case c3=>unfold maxLen;omega
        case c4=>omega
        case c5=>simp;omega
        intro v' w' Nf Nb Pv;have HN:=qh (And.intro Nf Nb);clear Nf Nb Pv O;go_wp2;go_roundw;case rel=>exact⟨k+1,by go_num,by omega,by rw[HS.o,HL.o,HM.o];simp only[Bool.not_false,if_true];rw[iJ,List.length_append];exact HN.o.1,(H.o.2.alloc Ki _).grown HN.o.2 ahu (λj hj=>(H.o.1.lt j hj).1)⟩
        case measure=>simp[intOf];omega
      . rw[hm]at c0;have HM:=qh hm;clear hm O;go_wp2;go_roundw;case rel=>exact⟨k+1,by go_num,by omega,by rw[HS.o,HL.o,HM.o];exact H.o.1,H.o.2⟩
        case measure=>simp[intOf];omega
    . obtain rfl:k=P.length:=by omega
      have Lc:=a6 P P.length;have H:=qh (And.intro O Y);clear O Y;go_wp2;go_ret;exact⟨_,rfl,de H.o.1 JZ,HB.o.trans (H.o.2.mono JZ)⟩
def gU(P:List Int)(k:Nat):List Int:=(List.range P.length).map fun(u:Nat)=>if u<k then((depL P u:Nat):Int)else 0
def pP(P:List Int):List Int:=(List.range P.length).map fun(u:Nat)=>((depL P u:Nat):Int)
def yK(P:List Int)(k:Nat):(gU P k).length=P.length:=by simp[gU]
def yI(P:List Int):gU P P.length=pP P:=by unfold gU pP;exact List.map_congr_left λu h=>if_pos (List.mem_range.1 h)
def iI(l:List Int):l.flatMap encI=l.map (Value.int .i64):=(tL _ _).symm
def qc(P:List Int)(k:Nat)(x:Int)(H:x=((depL P k:Nat):Int)):((gU P k).flatMap encI).set k (J x)=(gU P (k+1)).flatMap encI:=by
 rw[iI,iI];unfold gU;rw[List.map_map,List.map_map];refine ql P.length k _ _ _ ?_ λj I=>?_;.show Value.int .i64 (if k<k+1 then _ else _)=_;rw[if_pos ahp,H]
 .show Value.int .i64 (if j<k+1 then _ else _)=Value.int .i64 (if j<k then _ else _);by_cases h:j<k;.rw[if_pos h,if_pos ahp]
  .rw[if_neg h,if_neg ahp]
def yJ(P:List Int)(k m:Nat)(hm:m<k)(h:k<=P.length):((gU P k).flatMap encI)[m]? =some (J ((depL P m:Nat):Int)):=by rw[iI];unfold gU;rw[List.map_map,i1 _ _ _ ahp];show some (Value.int .i64 (if m<k then _ else _))=_;rw[if_pos hm]
def vh(w:World)(v:Value)(P:List Int)(h:RdL w v 1 encI P)(ht:dT P=true)(Nq:P.length<=1000):E 84 #[v] w λe w'=>∃v',e= returned v'/\w'.ownsRow w.heap.size 3 1 v' (pP P).length ((pP P).flatMap encI)/\Below w.heap.size w w':=by
  obtain⟨i0,hi,J5,J7,J2⟩:=info_parts Tryz.infoIn;obtain⟨A,cap,rfl,l1,l2,V⟩:=h;have HR:=qh V;have HT:=qh ht;clear V ht;go_enter func84,ntmps84;go_wp2_with (refine wpList_make_full _ rfl (.tmp 7) (.tmp 7) 22 rfl w.heap.size 3 i0 (J 0) 1 Tryz.underlying22 hi J5 J7 .i64 .i64 P.length P.length P.length rfl rfl rfl rfl ?b2 ?b3 (Nat.le_refl _) ?_);case b2=>rw[J2];omega
  case b3=>unfold maxLen;omega
  intro w1 H hg;have OW:w1.ownsRow w.heap.size 3 1 (slice (some ⟨w.heap.size,0,none⟩) P.length P.length) P.length ((gU P 0).flatMap encI):=by have e:(madeCells #[Value.int .i64 0] P.length).toList=(gU P 0).flatMap encI:=(by rw[kI,iI];unfold gU;rw[List.map_map];exact List.map_congr_left λi _=>rfl);rw[e]at H;exact H
  have Kg:Below w.heap.size w w1:=(Below.refl w.heap.size w).grown hg (Nat.le_refl _) (λj hj=>by cases hj);clear H hg hi J5 J7 J2;go_wp2;go_loopw [11] (λi wr=>∃k:Nat,i= J k/\k<=P.length/\wr.ownsRow w.heap.size 3 1 (slice (some ⟨w.heap.size,0,none⟩) P.length P.length) P.length ((gU P k).flatMap encI)/\Below w.heap.size w wr) (λi _=>P.length-(intOf i).toNat);case atStart=>exact⟨0,rfl,by omega,OW,Kg⟩
  case round=>
    clear OW Kg;obtain⟨k,rfl,hk,H,O⟩:=hrel;by_cases F':k<P.length
    . obtain⟨bl,off,rfl,KP,hc⟩:=HR.o ahp;obtain⟨p,hp⟩:=ai F';have c0:=(O.cell (p:=⟨bl,off+k*1+0,none⟩) KP).trans (hc k p hp 0 _ rfl);simp only[Nat.add_zero,Nat.mul_one]at c0;have Pw:=gC HT.o hp;have Y:=iE HT.o hp;have ab:=DA P p;have HP:=qh hp;clear hc hp;have f0:=H.frozenAt k;have g0:=H.cellAt k ahp;have Ol:=(H.lt _ rfl).2;obtain⟨u,hu⟩:∃u,((gU P k).flatMap encI)[k]? =some u:=by rw[iI];unfold gU;rw[List.map_map,i1 _ _ _ ahp];exact⟨_,rfl⟩
      rw[hu]at g0;clear hu;have E':bl≠w.heap.size:=(by omega);by_cases h0:0<=p
      . rw[if_pos h0]at Y;obtain⟨m,rfl⟩:=Int.eq_ofNat_of_zero_le h0;have g1:=H.cellAt m ahp;rw[yJ P k m ahp hk]at g1;have J0:=(H.stored k (J 1)).1.stored k (J (((depL P m:Nat):Int)+1));have HN:=qh (qc P k (((depL P m:Nat):Int)+1) (by rw[Y];omega));have I:=qh (And.intro J0 O);clear J0 O H Y;go_wp2;go_roundw;case rel=>exact⟨k+1,by go_num,by omega,by have:=I.o.1.1;rw[List.set_set,HN.o]at this;exact this,(I.o.2.setCell (Nat.le_refl _) _).setCell (Nat.le_refl _) _⟩
        case measure=>simp[intOf];omega
      . rw[if_neg h0]at Y;have J0:=H.stored k (J 1);have HN:=qh (qc P k 1 (by rw[Y];rfl));have I:=qh (And.intro J0 O);clear J0 O H Y;go_wp2;go_roundw;case rel=>exact⟨k+1,by go_num,by omega,by have:=I.o.1.1;rw[HN.o]at this;exact this,I.o.2.setCell (Nat.le_refl _) _⟩
        case measure=>simp[intOf];omega
    . obtain rfl:k=P.length:=by omega
      have I:=qh (And.intro H O);clear H O;go_wp2;go_ret;exact⟨_,rfl,by rw[<-yI,yK];exact I.o.1,I.o.2⟩
end
section
open Go.RowKit
variable{n base:Nat}{v:Value}{e:TypeId}{xs:List Value}
def bX{α:Type}{enc:α->List Value}{l:List α}(h:RdL w v sz enc l):∃A c,v= .slice A l.length c/\l.length<=c/\l.length<=140737488355328:=by obtain⟨A,c,h1,H,I,_⟩:=h;exact⟨A,c,h1,H,I⟩
def fQ{c:Nat}(h:RdL w (.slice A n c) 1 encI l)(O:0<l.length):∃b off,A=some ⟨b,off,none⟩/\b<w.heap.size/\∀i x,l[i]? =some x->Z w b (off+i) (J x):=by obtain⟨A',c',e,h1,h2,I⟩:=h;injection e with H e2 e3;subst H;obtain⟨b,off,Y,q2,q3⟩:=I O;refine⟨b,off,Y,q2,λi x V=>?_⟩;have:=q3 i x V 0 _ rfl;simpa using this
def fY(h:jK P T=true):a5 P T=8:=by unfold a5;rw[if_pos h]
def kT(h:jK P T=false)(H:dT P=false):a5 P T=9:=by unfold a5;rw[h,H];rfl
def nR(h:jK P T=false)(H:dT P=true)(I:ky P=false):a5 P T=9:=by unfold a5;rw[h,H,I];rfl
def wY(h:jK P T=false)(H:dT P=true)(I:ky P=true):a5 P T=if thrB P T then 0 else 4:=by unfold a5;rw[h,H,I];cases thrB P T<;>rfl
def xt{v:Int}(H:0<=v)(h:v<P.length):(pP P)[v.toNat]? =some ((depL P v:Nat):Int):=by unfold pP;rw[i1 _ _ _ ahp];congr 3;omega
def iZ(h:w.ownsRow base e sz v n xs)(k:Below w.heap.size w w'):w'.ownsRow base e sz v n xs:=
 aa.own h (aa.of_below (S:=[]) k) (λ_ _=>by simp)
def nw(h:w.ownsRow base e sz v n xs)(g:Nat)(u:Value)(hg:∀b,v.ownBlock=some b->b≠g):(w.setCell ⟨g,0,none⟩ u).ownsRow base e sz v n xs:=
 aa.own h (aa.setCell (aa.refl [g] w) (.inl ahq) u) (λb I=>by simpa using hg b I)
def sk(I:Below W.heap.size W w1):(∀b o,b<W.heap.size->w1.cell? ⟨b,o,none⟩=W.cell? ⟨b,o,none⟩)/\(∀b o,b<W.heap.size->w1.frozen? ⟨b,o,none⟩=W.frozen? ⟨b,o,none⟩):=
 ⟨λb o h=>I.cell (p:=⟨b,o,none⟩) h,λb o h=>I.frozen (p:=⟨b,o,none⟩) h⟩
def ke(w:World)(vP vT:Value)(P T:List Int)(hP:RdL w vP 1 encI P)(hT:RdL w vT 1 encI T):E 42 #[agg #[vP,vT]] w λe w'=>e= returned (J (a5 P T))/\Below w.heap.size w w':=by
  have HP:=qh hP;have HT:=qh hT;obtain⟨AP,cP,rfl,SL,SM⟩:=bX hP;obtain⟨AT,cT,rfl,Qb,Qc⟩:=bX hT;clear hP hT;have JX:Below w.heap.size w (w.alloc (cells #[.slice AP P.length cP,.slice AT T.length cT] 24)):=(Below.refl _ _).alloc (Nat.le_refl _) _;have Ks:=qh JX;clear JX;go_enter func42,ntmps42;go_upto_region 1 with fail;go_quiet (fail);have c0:((w.alloc (cells #[.slice AP P.length cP,.slice AT T.length cT] 24)).drewN nq).cell? w.heap.size=some (.slice AP P.length cP):=by simp[World.cell?_alloc_new]
  have c1:((w.alloc (cells #[.slice AP P.length cP,.slice AT T.length cT] 24)).drewN nq).cell? ⟨w.heap.size,1,none⟩=some (.slice AT T.length cT):=by simp[World.cell?_alloc_new]
  have Ki:w.heap.size+1<=((w.alloc (cells #[.slice AP P.length cP,.slice AT T.length cT] 24)).drewN nq).heap.size:=by simp[World.drewN]
  have M7:=cK Ks.o nq;clear Ks;generalize ((w.alloc (cells #[.slice AP P.length cP,.slice AT T.length cT] 24)).drewN nq)=wb at *;have HB:=qh M7;have HC:=qh (And.intro c0 c1);have NN:=qh (HP.o.below M7 (Nat.le_refl _));have RQ:=qh (HT.o.below M7 (Nat.le_refl _));clear M7 HP HT;by_cases a1:P.length<1;. have HE:=qh (fY (P:=P) (T:=T) (decide_eq_true (.inl a1)));go_wp2;go_ret;exact⟨aT HE.o.symm,HB.o⟩
  by_cases a2:32<P.length;. have HE:=qh (fY (P:=P) (T:=T) (decide_eq_true (.inr (.inl a2))));go_wp2;go_ret;exact⟨aT HE.o.symm,HB.o⟩
  by_cases a3:T.length<1;. have HE:=qh (fY (P:=P) (T:=T) (decide_eq_true (.inr (.inr (.inl a3)))));go_wp2;go_ret;exact⟨aT HE.o.symm,HB.o⟩
  by_cases a4:32<T.length;. have HE:=qh (fY (P:=P) (T:=T) (decide_eq_true (.inr (.inr (.inr a4)))));go_wp2;go_ret;exact⟨aT HE.o.symm,HB.o⟩
  have HM:=qh (show jK P T=false from decide_eq_false ahp);cases Oy:dT P;. have HE:=qh (kT HM.o Oy);have HQ:=qh (um wb _ P NN.o);rw[Oy]at HQ;clear Oy;go_wp2_with (go_at_call 82;refine HQ.o.mono ?_;rintro e w' ⟨rfl,rfl⟩);go_ret;exact⟨aT HE.o.symm,HB.o⟩
  have HQ:=qh (um wb _ P NN.o);rw[Oy]at HQ;have OG:=qh Oy;clear Oy;have bd:Below wb.heap.size wb wb.drew:=(Below.refl _ _).drew;go_upto_region 4 with fail;go_wp2_with (go_at_call 82;refine HQ.o.mono ?_;rintro e w' ⟨rfl,rfl⟩);go_cut [5,6] (λs5 s6 wx=>∃g v5,s5= pointer (some ⟨g,0,none⟩)/\wb.heap.size<=g/\Z wx g 0 v5/\wx.ownsRow wb.heap.size 3 1 v5 (ac P).length ((ac P).flatMap encI)/\wx.ownsRow wb.heap.size 3 1 s6 (pP P).length ((pP P).flatMap encI)/\Below wb.heap.size wb wx)
  case first=>
    go_region_held3 (λW=>W.cell? w.heap.size=some (.slice AP P.length cP))
      (first|exact c0|exact(bd.cell (p:=w.heap.size) (show w.heap.size<wb.heap.size by omega)).trans c0|exact(k3.cell (p:=w.heap.size) (show w.heap.size<wb.heap.size by omega)).trans c0|exact(k2.cell (p:=w.heap.size) (show w.heap.size<wb.heap.size by omega)).trans c0|exact((k2.alloc k2.size _).cell (p:=w.heap.size) (show w.heap.size<wb.heap.size by omega)).trans c0|exact(((Below.refl wb.heap.size wb).alloc (Nat.le_refl _) _).cell (p:=w.heap.size) (show w.heap.size<wb.heap.size by omega)).trans c0|exact((((Below.refl wb.heap.size wb).alloc (Nat.le_refl _) _).drew).cell (p:=w.heap.size) (show w.heap.size<wb.heap.size by omega)).trans c0|exact((k3.setCell (by first|exact k2.size|exact Nat.le_refl _) _).cell (p:=w.heap.size) (show w.heap.size<wb.heap.size by omega)).trans c0|exact((k3.alloc k3.size _).cell (p:=w.heap.size) (show w.heap.size<wb.heap.size by omega)).trans c0|(simp[*];done))
      (first
        | (go_at_call 83;go_loud (refine(oI _ _ P (NN.o.below (B:=wb.heap.size) (by first|exact bd|exact bd.alloc (Nat.le_refl _) _) (Nat.le_refl _)) OG.o ahp).mono ?_);rintro e w2 ⟨v2,rfl,o2,b2⟩;obtain⟨Y,c2,rfl⟩:=a8 o2;(have k2:Below wb.heap.size wb w2:=(by first|exact bd.trans (b2.mono ahq)|exact(bd.alloc (Nat.le_refl _) _).trans (b2.mono ahq)));have Lv:=(sk b2).1;have bw:=(sk b2).2;have O2:=qh o2;(first|have J2:wb.heap.size<w2.heap.size:=(by have:=b2.size;simp at this;omega)|have J2:=k2.size))
        | (go_at_call 84;go_loud (refine(vh _ _ P (NN.o.below (B:=wb.heap.size) (by first|exact k2|exact k2.alloc k2.size _|exact k2.setCell ahq _|exact(k2.alloc k2.size _).setCell ahq _) (Nat.le_refl _)) OG.o ahp).mono ?_);rintro e w3 ⟨v3,rfl,o3,b3⟩;have V6:=(sk b3).1;have bA:=(sk b3).2;have O3:=qh o3;(have k3:Below wb.heap.size wb w3:=(by first|exact k2.trans (b3.mono k2.size)|exact(k2.alloc k2.size _).trans (b3.mono (by simp;have:=k2.size;omega))))))
    . have KI:=b3.size;have O:=de ((iZ O2.o b3).alloc (cells #[.slice Y (ac P).length c2] 22)) (b':=wb.heap.size) ahq;have e3:=de (O3.o.alloc (cells #[.slice Y (ac P).length c2] 22)) (b':=wb.heap.size) k2.size;have e4:=(k2.trans (b3.mono k2.size)).alloc (Nat.le_trans k2.size b3.size) (cells #[.slice Y (ac P).length c2] 22);have H:=qh (And.intro O (And.intro e3 e4));clear O e3 e4;go_wp2_with fail;go_meet;case rel=>exact⟨_,_,rfl,Nat.le_trans k2.size KI,by simp[World.cell?_alloc_new],H.o.1,H.o.2.1,H.o.2.2⟩
    . have KI:=b3.size;have O:=de (nw (iZ (O2.o.alloc (cells #[.slice none 0 0] 22)) b3) w2.heap.size (.slice Y (ac P).length c2) (λb I=>by have:=(O2.o.lt b I).2;omega)) (b':=wb.heap.size) ahq;have e3:=de (nw O3.o w2.heap.size (.slice Y (ac P).length c2) (λb I=>by have:=(O3.o.lt b I).1;simp at this;omega)) (b':=wb.heap.size) (by simp;have:=k2.size;omega);have e4:=((k2.alloc k2.size (cells #[.slice none 0 0] 22)).trans (b3.mono (by simp;have:=k2.size;omega))).setCell (p:=w2.heap.size) k2.size (.slice Y (ac P).length c2);have H:=qh (And.intro O (And.intro e3 e4));clear O e3 e4;go_wp2_with fail;go_meet;case rel=>exact⟨_,_,rfl,k2.size,World.cell?_setCell_same (u:= .slice none 0 0) _ _ _ (by rw[V6 _ _ ahq];simp[World.cell?_alloc_new]),H.o.1,H.o.2.1,H.o.2.2⟩
    . have KI:=b3.size;have O:=de (nw (iZ O2.o b3) wb.heap.size (.slice Y (ac P).length c2) (λb I=>by have:=(O2.o.lt b I).1;simp at this;omega)) (b':=wb.heap.size) ahq;have e3:=de (nw O3.o wb.heap.size (.slice Y (ac P).length c2) (λb I=>by have:=(O3.o.lt b I).1;omega)) (b':=wb.heap.size) k2.size;have e4:=(k2.trans (b3.mono k2.size)).setCell (p:=wb.heap.size) (Nat.le_refl _) (.slice Y (ac P).length c2);have H:=qh (And.intro O (And.intro e3 e4));clear O e3 e4;go_wp2_with fail;go_meet;case rel=>exact⟨_,_,rfl,Nat.le_refl _,World.cell?_setCell_same (u:= .slice none 0 0) _ _ _ (by rw[V6 _ _ ahp,Lv _ _ ahq];simp[World.cell?_alloc_new]),H.o.1,H.o.2.1,H.o.2.2⟩
  case rest=>
    clear NN HQ bd c0 c1;obtain⟨g,v5,rfl,hg,Mu,o5,o6,bc⟩:=hcut;have Lc:=a6 P P.length;have NZ:(ac P).length<=32:=(by show(ak P P.length).length<=_;omega);have Q1:(pP P).length=P.length:=(by simp[pP]);have R5:=dM o5 ahp;have R6:=dM o6 ahp;have Tg:=qh R5;obtain⟨A5,c5,rfl,k5,_⟩:=bX R5;obtain⟨A6,c6,rfl,k6,_⟩:=bX R6;have f0:=(bc.cell (p:=w.heap.size) (show w.heap.size<wb.heap.size by omega)).trans HC.o.1;have f1:=(bc.cell (p:=⟨w.heap.size,1,none⟩) (show w.heap.size<wb.heap.size by omega)).trans HC.o.2;have Ym:=qh (RQ.o.below bc (Nat.le_refl _));have RF:=qh (HB.o.trans (bc.mono HB.o.size));have SV:=qh (And.intro R5 R6);clear R5 R6 o5 o6 bc RQ HB HC;go_wp2;go_loopw [41] (λi wr=>∃j m:Nat,i= J j/\j<=(ac P).length/\evL P ((ac P).take j)=true/\wr=wc.drewN m) (λi _=>(ac P).length-(intOf i).toNat);case atStart=>exact⟨0,0,rfl,by omega,rfl,rfl⟩
    case round=>
      obtain⟨j,mm,rfl,hj,LL,rfl⟩:=hrel;by_cases Nc:j<(ac P).length
      . obtain⟨b5,al,YT,MJ,TO⟩:=fQ SV.o.1 ahp;obtain⟨b6,ax,YU,PU,TP⟩:=fQ SV.o.2 (by rw[Q1];omega);subst YT YU;obtain⟨x,hx⟩:=ai Nc;obtain⟨y,hy⟩:=ai (show 0<(ac P).length by omega);have Mc:=gy (P:=P) (k:=P.length) (List.mem_of_getElem? hx);have Qa:=gy (P:=P) (k:=P.length) (List.mem_of_getElem? hy);obtain⟨x,rfl⟩:=Int.eq_ofNat_of_zero_le Mc.2.1;obtain⟨y,rfl⟩:=Int.eq_ofNat_of_zero_le Qa.2.1;have q1:=TO j _ hx;have q2:=TO 0 _ hy;have q3:=TP x _ (by have:=xt (P:=P) Mc.2.1 Mc.2.2;simpa using this);have q4:=TP y _ (by have:=xt (P:=P) Qa.2.1 Qa.2.2;simpa using this);simp only[Nat.add_zero]at q2;have ab:x<P.length:=(by have:=Mc.2.2;omega);have ad:y<P.length:=(by have:=Qa.2.2;omega);have Uw:(ac P).take (j+1)=(ac P).take j++[(x:Int)]:=a7 hx
        have Wm:((ac P).take j++[(x:Int)]).headD 0=(y:Int):=by
          rw[<-Uw];cases hl:ac P with
          | nil=>rw[hl]at hy;cases hy
          | cons a l=>rw[hl]at hy;simp at hy;simp[hy]
        have TU:=sO P ((ac P).take j) x;rw[LL,Bool.true_and,Wm,<-Uw]at TU;obtain⟨d,hd⟩:∃d:Int,d=((depL P x:Nat):Int):=⟨_,rfl⟩;obtain⟨d0,MK⟩:∃d:Int,d=((depL P y:Nat):Int):=⟨_,rfl⟩;rw[<-hd]at q3;rw[<-MK]at q4;have HV:=qh (And.intro TU (And.intro hd MK));have PV:evL P ((ac P).take (j+1))=false->ky P=false:=λh=>by have:=xf (m:=(ac P).drop (j+1)) h;rwa [List.take_append_drop]at this
        have O9:=qh PV;clear hx hy Mc Qa Uw Wm TU hd MK LL TO TP PV;cases e1:(d !=d0)
        . cases O:decide (5<d)
          . have V:=qh (show evL P ((ac P).take (j+1))=true from by
              rw[HV.o.1];have:=HV.o.2;simp only[bne_eq_false_iff_eq,decide_eq_false_iff_not]at e1 O
              exact decide_eq_true ahp)
            go_wp2_with fail;go_quiet (fail);go_wp2;go_roundw;case rel=>exact⟨j+1,_,by go_num,by omega,V.o,rfl⟩
            case measure=>simp[intOf];omega
          . have V:=qh (nR (T:=T) HM.o OG.o (O9.o (by
              rw[HV.o.1];have:=HV.o.2;simp only[decide_eq_true_eq]at O
              exact decide_eq_false ahp)))
            go_wp2_with fail;go_quiet (fail);go_wp2;go_ret;exact⟨aT V.o.symm,cK (cK RF.o _) _⟩
        . have V:=qh (nR (T:=T) HM.o OG.o (O9.o (by
            rw[HV.o.1];have:=HV.o.2;simp only[bne_iff_ne]at e1
            exact decide_eq_false ahp)))
          go_wp2_with fail;go_quiet (fail);go_wp2;go_ret;exact⟨aT V.o.symm,cK (cK RF.o _) _⟩
      . obtain rfl:j=(ac P).length:=by omega
        rw[List.take_length,<-sP]at LL;have V:=qh (wY (T:=T) HM.o OG.o LL);have Nv:=mg (wc.drewN mm) g _ _ (ac P) T (show(wc.drewN mm).cell? ⟨g,0,none⟩=_ from Mu) (SV.o.1.drewN mm) (Ym.o.drewN mm);rw[EN]at Nv;clear LL;cases SG:thrB P T;. rw[SG]at Nv V;have HC:=qh Nv;clear Nv SG;go_wp2_with (go_at_call 85;refine HC.o.mono ?_;rintro e w' ⟨rfl,rfl⟩);go_ret;exact⟨aT V.o.symm,cK RF.o _⟩
        . rw[SG]at Nv V;have HC:=qh Nv;clear Nv SG;go_wp2_with (go_at_call 85;refine HC.o.mono ?_;rintro e w' ⟨rfl,rfl⟩);go_ret;exact⟨aT V.o.symm,cK RF.o _⟩
def uj(w:World)(h H:Value)(P T:List Int)(Y:RdL w h 1 encI P)(hT:RdL w H 1 encI T):E 185 #[agg #[h,H]] w λe w'=>∃v,e= returned v/\w'.ownsRow w.heap.size 3 1 v (tv P T).length ((tv P T).flatMap encI)/\Below w.heap.size w w':=by
  have JX:Below w.heap.size w (w.alloc (cells #[h,H] 24)):=(Below.refl _ _).alloc (Nat.le_refl _) _;have I:=qh (ke (w.alloc (cells #[h,H] 24)) h H P T (Y.alloc _) (hT.alloc _));have HP:=qh Y;have V:=qh JX;obtain⟨AP,cP,rfl,SL,SM⟩:=bX Y;obtain⟨AT,cT,rfl,Qb,Qc⟩:=bX hT;clear Y hT JX;go_enter func185,ntmps185;by_cases hc:a5 P T=0;. have HL:=qh (show tv P T=ac P from by unfold tv;rw[if_pos hc]);obtain⟨hm,ht,_,_⟩:=aQ hc;have Kx:=bi hm;have HT:=qh ht;rw[hc]at I;clear hc hm ht;go_wp2_with fail;refine ST I.o λw1 b1=>?_;have Lh:=(sk b1).1;have JZ:=b1.size;simp at JZ;have O:=qh (V.o.trans (b1.mono V.o.size));clear b1;go_wp2_with fail;refine(oI _ _ P (HP.o.below O.o (Nat.le_refl _)) HT.o ahp).mono ?_;rintro en w2 ⟨v2,rfl,o2,b2⟩;have HO:=qh (And.intro o2 b2);clear o2 b2;go_wp2;go_ret;exact⟨_,rfl,by rw[HL.o];exact de HO.o.1 ahp,O.o.trans (HO.o.2.mono ahp)⟩
  . have HL:=qh (show tv P T=[]from by unfold tv;rw[if_neg hc]);obtain⟨z,hz⟩:=LE (a5 P T);rw[<-hz]at I hc;have J5:(z !=0)=true:=(by simpa using hc);clear hc hz;go_wp2_with fail;refine Pi I.o λw1 b1=>?_;have O:=qh (V.o.trans (b1.o.mono V.o.size));go_wp2;go_ret;exact⟨_,rfl,by rw[HL.o];exact World.ownsRow_nil _ _ _ _,O.o⟩
end
section
open Go.RowKit
def vQ(w:World)(vP vT:Value)(P T:List Int)(hP:RdL w vP 1 encI P)(hT:RdL w vT 1 encI T):E 48 #[agg #[vP,vT]] w λe w'=>e= returned (J (a5 P T))/\Below w.heap.size w w':=by
  have JX:Below w.heap.size w (w.alloc (cells #[vP,vT] 24)):=(Below.refl _ _).alloc (Nat.le_refl _) _;have V:=qh JX;have NN:=qh (hP.alloc (cells #[vP,vT] 24));have RQ:=qh (hT.alloc (cells #[vP,vT] 24));obtain⟨AP,cP,rfl,SL,SM⟩:=bX hP;obtain⟨AT,cT,rfl,Qb,Qc⟩:=bX hT;clear hP hT JX;have c0:(w.alloc (cells #[.slice AP P.length cP,.slice AT T.length cT] 24)).cell? w.heap.size=some (.slice AP P.length cP):=by simp[World.cell?_alloc_new]
  have c1:(w.alloc (cells #[.slice AP P.length cP,.slice AT T.length cT] 24)).cell? ⟨w.heap.size,1,none⟩=some (.slice AT T.length cT):=by simp[World.cell?_alloc_new]
  go_enter func48,ntmps48;go_upto_region 1 with fail;generalize (w.alloc (cells #[.slice AP P.length cP,.slice AT T.length cT] 24))=wb at *;by_cases a1:P.length<1;. have HE:=qh (fY (P:=P) (T:=T) (decide_eq_true (.inl a1)));go_wp2;go_ret;exact⟨aT HE.o.symm,V.o⟩
  by_cases a2:32<P.length;. have HE:=qh (fY (P:=P) (T:=T) (decide_eq_true (.inr (.inl a2))));go_wp2;go_ret;exact⟨aT HE.o.symm,V.o⟩
  by_cases a3:T.length<1;. have HE:=qh (fY (P:=P) (T:=T) (decide_eq_true (.inr (.inr (.inl a3)))));go_wp2;go_ret;exact⟨aT HE.o.symm,V.o⟩
  by_cases a4:32<T.length;. have HE:=qh (fY (P:=P) (T:=T) (decide_eq_true (.inr (.inr (.inr a4)))));go_wp2;go_ret;exact⟨aT HE.o.symm,V.o⟩
  have HM:=qh (show jK P T=false from decide_eq_false ahp);have H0:=qh (fQ NN.o ahp);obtain⟨p0,Kl⟩:=ai (show 0<P.length by omega);obtain⟨b,off,hA,I,hc⟩:=H0.o;subst hA;have q0:=hc 0 p0 Kl;simp only[Nat.add_zero]at q0;have HC:=qh hc;have PK:=qh Kl;clear hc Kl H0;go_upto_region 3 with fail;by_cases hz:p0= -1
  . subst hz
    have RO:=qh (show(List.range 1).all (okP P)=true from by
      have:=bh PK.o;show(okP P 0&&true)=true;rw[Bool.and_true]
      exact decide_eq_true ⟨λ_=>this,λh=>absurd h ahp⟩)
    go_wp2;go_loop [3] (λi=>∃k:Nat,i= J k/\1<=k/\k<=P.length/\(List.range k).all (okP P)=true) (λi=>P.length-(intOf i).toNat);case atStart=>exact⟨1,rfl,by omega,by omega,RO.o⟩
    case round=>
      obtain⟨k,rfl,ad,hk,ha⟩:=hrel;by_cases F':k<P.length
      . obtain⟨p,hp⟩:=ai F';have q1:=HC.o k p hp;have HP:=qh (And.intro (bh hp) ha);clear hp ha;by_cases g0:p<0;. have H:=qh (kT HM.o (j8 F' (decide_eq_false (by rw[HP.o.1];omega))));go_wp2;go_ret;exact⟨aT H.o.symm,V.o⟩
        . by_cases g1:(k:Int)<=p;. have H:=qh (kT HM.o (j8 F' (decide_eq_false (by rw[HP.o.1];omega))));go_wp2;go_ret;exact⟨aT H.o.symm,V.o⟩
          . have H:=qh (show(List.range (k+1)).all (okP P)=true from by
              rw[jO,HP.o.2,Bool.true_and]
              exact decide_eq_true (by rw[HP.o.1];omega))
            go_wp2;go_round;case rel=>exact⟨k+1,by go_num,by omega,by omega,H.o⟩
            case measure=>simp[intOf];omega
      . obtain rfl:k=P.length:=by omega
        have OG:=qh (show dT P=true from ha);clear ha;go_wp2;go_loop [4,5] (λf i=>∃k:Nat,i= J k/\k<=P.length/\f= J (first P k:Nat)/\evL P (ak P k)=true) (λ_ i=>P.length-(intOf i).toNat);case atStart=>exact⟨0,rfl,by omega,rfl,rfl⟩
        case round=>
          obtain⟨k,rfl,hk,rfl,LL⟩:=hrel;by_cases F':k<P.length
          . have Y:=qh (qm wb _ P k NN.o);have Qg:=qh LL;clear LL;cases O:dk P k
            . have H:=qh (And.intro (uS O) (show ak P (k+1)=ak P k from by rw[cz,O];rfl));rw[O]at Y;clear O;go_wp2_with (go_at_call 101;refine Y.o.mono ?_;rintro e w' ⟨rfl,rfl⟩);go_round;case rel=>exact⟨k+1,by go_num,by omega,by rw[H.o.1],by rw[H.o.2];exact Qg.o⟩
              case measure=>simp[intOf];omega
            . have J0:=uT F' O;rw[Qg.o,Bool.true_and]at J0;have HD:=qh (zd wb _ P k NN.o);rw[O]at Y;have L7:=oq F';obtain⟨d,hd⟩:=LE (depL P k);obtain⟨f,hf⟩:=LE (first P k);rw[<-hd]at HD J0 L7;rw[<-hf]at J0 ⊢;have KZ:=qh (And.intro J0 (And.intro hd hf));have PV:evL P (ak P (k+1))=false->a5 P T=9:=λh=>nR HM.o OG.o (Ba ahp h);have O9:=qh PV;clear J0 hd hf PV O;by_cases f0:f=0
              . subst f0;by_cases g1:5<d;. have H:=qh (O9.o (by rw[KZ.o.1.2];exact decide_eq_false ahp));go_wp2_with (first|(go_at_call 101;refine Y.o.mono ?_;rintro e w' ⟨rfl,rfl⟩)|(go_at_call 102;refine HD.o.mono ?_;rintro e w' ⟨rfl,rfl⟩));go_ret;exact⟨aT H.o.symm,V.o⟩
                . have HF:=qh (show first P (k+1)=d from by rw[KZ.o.1.1];rfl);have H:=qh (show evL P (ak P (k+1))=true from by rw[KZ.o.1.2];exact decide_eq_true ⟨by rw[HF.o],by omega⟩);go_wp2_with (first|(go_at_call 101;refine Y.o.mono ?_;rintro e w' ⟨rfl,rfl⟩)|(go_at_call 102;refine HD.o.mono ?_;rintro e w' ⟨rfl,rfl⟩));go_round;case rel=>exact⟨k+1,by go_num,by omega,by rw[HF.o],H.o⟩
                  case measure=>simp[intOf];omega
              . have HF:=qh (show first P (k+1)=f from by rw[KZ.o.1.1,if_neg f0]);have e0:(f==0)=false:=(by simpa using f0);have ab:((f:Int)==0)=false:=(by rw[beq_eq_false_iff_ne];omega);by_cases g0:d=f
                . subst g0;by_cases g1:5<d;. have H:=qh (O9.o (by rw[KZ.o.1.2];exact decide_eq_false ahp));go_wp2_with (first|(go_at_call 101;refine Y.o.mono ?_;rintro e w' ⟨rfl,rfl⟩)|(go_at_call 102;refine HD.o.mono ?_;rintro e w' ⟨rfl,rfl⟩));go_ret;exact⟨aT H.o.symm,V.o⟩
                  . have H:=qh (show evL P (ak P (k+1))=true from by rw[KZ.o.1.2];exact decide_eq_true ⟨by rw[HF.o],by omega⟩);go_wp2_with (first|(go_at_call 101;refine Y.o.mono ?_;rintro e w' ⟨rfl,rfl⟩)|(go_at_call 102;refine HD.o.mono ?_;rintro e w' ⟨rfl,rfl⟩));go_round;case rel=>exact⟨k+1,by go_num,by omega,by rw[HF.o],H.o⟩
                    case measure=>simp[intOf];omega
                . have H:=qh (O9.o (by rw[KZ.o.1.2];exact decide_eq_false (by rw[HF.o];omega)));have e1:(d !=f)=true:=(by simpa using g0);have RX:((d:Int) !=(f:Int))=true:=(by rw[bne_iff_ne];omega);go_wp2_with (first|(go_at_call 101;refine Y.o.mono ?_;rintro e w' ⟨rfl,rfl⟩)|(go_at_call 102;refine HD.o.mono ?_;rintro e w' ⟨rfl,rfl⟩));go_ret;exact⟨aT H.o.symm,V.o⟩
          . obtain rfl:k=P.length:=by omega
            have Qg:=qh (wY (T:=T) HM.o OG.o LL);have M0:=qh (fQ RQ.o ahp);obtain⟨bt,Xo,YW,OP,Mt⟩:=M0.o;subst YW;have L2:=qh Mt;clear Mt LL M0;go_wp2;go_loopw [7] (λi wr=>∃j:Nat,i= J j/\j<=T.length/\(T.take j).all (dk P)=true/\Qt wb wr) (λi _=>T.length-(intOf i).toNat);case atStart=>exact⟨0,rfl,by omega,rfl,Qt.refl _⟩
            case round=>
              obtain⟨j,rfl,hj,ha,hq⟩:=hrel;obtain⟨wq,rfl⟩:∃wq:World,wq=wr:=⟨_,rfl⟩;have d0:wq.cell? w.heap.size=some (slice (some ⟨b,off,none⟩) P.length cP):=(by obtain⟨n,rfl⟩:=hq;exact c0);have d1:Z wq w.heap.size 1 (slice (some ⟨bt,Xo,none⟩) T.length cT):=(by obtain⟨n,rfl⟩:=hq;exact c1);have HQ:=qh hq;by_cases Q7:j<T.length
              . obtain⟨x,hx⟩:=ai Q7;have q2:Z wq bt (Xo+j) (J x):=(by obtain⟨n,rfl⟩:=hq;exact L2.o j x hx);have HX:=qh (And.intro hx ha);have Y:=qh (λn=>(qm (wq.drewN n) _ P x ((NN.o.qt HQ.o).drewN n)).mono λ_ _ h=>And.intro h.1 h.2.symm);clear hx ha hq;cases O:dk P x
                . have H:=qh (show a5 P T=4 from by
                    rw[Qg.o,if_neg];intro h;unfold thrB at h;rw[List.all_eq_true]at h;rw[h x (List.mem_of_getElem? HX.o.1)]at O
                    cases O)
                  rw[O]at Y;clear O;go_wp2_with fail;go_quiet ((go_at_call 101;exact Calls.quiet_of_same (Y.o _)));go_wp2;go_ret;exact⟨aT H.o.symm,cK (V.o.trans ((HQ.o.below _).mono V.o.size)) _⟩
                . have H:=qh (show(T.take (j+1)).all (dk P)=true from by rw[a7 HX.o.1,List.all_append,HX.o.2];simp[O]);rw[O]at Y;clear O;go_wp2_with fail;go_quiet ((go_at_call 101;exact Calls.quiet_of_same (Y.o _)));go_wp2;go_roundw;case rel=>exact⟨j+1,by go_num,by omega,H.o,HQ.o.trans ⟨_,rfl⟩⟩
                  case measure=>simp[intOf];omega
              . obtain rfl:j=T.length:=by omega
                rw[List.take_length]at ha;have H:=qh (show a5 P T=0 from by rw[Qg.o,if_pos (show thrB P T=true from ha)]);clear ha hq;go_wp2;go_ret;exact⟨aT H.o.symm,V.o.trans ((HQ.o.below _).mono V.o.size)⟩
  . have H:=qh (kT (P:=P) HM.o (j8 (k:=0) ahp (decide_eq_false (by rw[bh PK.o];omega))));have e1:(p0 != -1)=true:=(by simpa using hz);clear hz;go_wp2;go_ret;exact⟨aT H.o.symm,V.o⟩
end
section
open Go.RowKit
def pe(b:Int)(w:World)(I:0<=b)(h1:b<=1000):E 135 #[J b] w λe w'=>e= returned (bool true)/\w=w':=by
 have h:E 171 #[J b,J 0,J 1000] w λe w'=>e= returned (bool true)/\w=w':=by go_enter func171,ntmps171;exact aab
 have H:=qh h;clear h;go_enter func135,ntmps135;go_wp2_with fail;refine LT H.o ?_;exact aab
def jP(P T:List Int)(m:Int):Bool:=decide (a5 P T=0/\(T.length:Int)<=m)
def CN(w:World)(h H:Value)(P T:List Int)(hP:RdL w h 1 encI P)(hT:RdL w H 1 encI T)(m:Int):E 10 #[agg #[h,H],J m] w λe w'=>e= returned (bool (jP P T m))/\Below w.heap.size w w':=by
  have HC:=qh (vQ (w.alloc (cells #[h,H] 24)) h H P T (hP.alloc _) (hT.alloc _));have I:=qh ((Below.refl w.heap.size w).alloc (Nat.le_refl _) (cells #[h,H] 24));obtain⟨AP,cP,rfl,SL,SM⟩:=bX hP;obtain⟨O,cT,rfl,Qb,Qc⟩:=bX hT;have hX:(w.alloc (cells #[.slice AP P.length cP,.slice O T.length cT] 24)).cell? ⟨w.heap.size,1,none⟩=some (.slice O T.length cT):=by simp[World.cell?_alloc_new]
  have LK:w.heap.size<(w.alloc (cells #[.slice AP P.length cP,.slice O T.length cT] 24)).heap.size:=by simp
  clear hP hT;by_cases hc:a5 P T=0;. have t0:(a5 P T==0)=true:=(by simpa using hc);have V:Kq (jP P T m=decide ((T.length:Int)<=m)):=qh (by unfold jP;simp[hc]);clear hc;go_enter func10,ntmps10;go_wp2_with fail;refine Pi HC.o λw1 b1=>?_;have f1:=(b1.o.cell (p:=⟨w.heap.size,1,none⟩) LK).trans hX;have Y:=qh (I.o.trans (b1.o.mono I.o.size));clear hX LK;go_wp2;go_ret;rw[V.o];exact⟨rfl,Y.o⟩
  . have t0:(a5 P T==0)=false:=(by simpa using hc);have V:Kq (jP P T m=false):=qh (by unfold jP;simp[hc]);clear hc hX LK;go_enter func10,ntmps10;go_wp2_with fail;refine Pi HC.o λw1 b1=>?_;have Y:=qh (I.o.trans (b1.o.mono I.o.size));go_wp2;go_ret;rw[V.o];exact⟨rfl,Y.o⟩
def zS(w:World)(vP vT:Value)(m:Int):Prop:=∀W,Below w.heap.size w W->E 10 #[agg #[vP,vT],J m] W λe w'=>e= returned (bool false)/\Below W.heap.size W w'
def zS.of{h H:Value}{m:Int}(I:RdL w h 1 encI P)(O:RdL w H 1 encI T)(hs:jP P T m=false):zS w h H m:=λW b=>by
 have:=CN W h H P T (I.below b (Nat.le_refl _)) (O.below b (Nat.le_refl _)) m
 rw[hs]at this
 exact this
def vV(w:World)(I O:Option Addr)(H cP nT V:Nat)(h:32<H\/32<nT)(h1:H<=9223372036854775807)(h2:nT<=9223372036854775807):E 48 #[agg #[.slice I H cP,.slice O nT V]] w λe w'=>e= returned (J 8)/\Below w.heap.size w w':=by
  have Y:=qh ((Below.refl w.heap.size w).alloc (Nat.le_refl _) (cells #[.slice I H cP,.slice O nT V] 24));have c0:(w.alloc (cells #[.slice I H cP,.slice O nT V] 24)).cell? w.heap.size=some (.slice I H cP):=by simp[World.cell?_alloc_new]
  have c1:(w.alloc (cells #[.slice I H cP,.slice O nT V] 24)).cell? ⟨w.heap.size,1,none⟩=some (.slice O nT V):=by simp[World.cell?_alloc_new]
  go_enter func48,ntmps48;go_upto_region 1 with fail;generalize (w.alloc (cells #[.slice I H cP,.slice O nT V] 24))=wb at *;by_cases a1:H<1;. go_wp2;go_ret;exact⟨rfl,Y.o⟩
  by_cases a2:32<H;. go_wp2;go_ret;exact⟨rfl,Y.o⟩
  have a4:32<nT:=by omega
  have a3:¬nT<1:=by omega
  clear h;go_wp2;go_ret;exact⟨rfl,Y.o⟩
def zS.raw(w:World)(I O:Option Addr)(H cP nT V:Nat)(m:Int)(h:32<H\/32<nT)(h1:H<=9223372036854775807)(h2:nT<=9223372036854775807):zS w (.slice I H cP) (.slice O nT V) m:=λW _=>by
 have HC:=qh (λw=>vV w I O H cP nT V h h1 h2)
 have Y:=qh ((Below.refl W.heap.size W).alloc (Nat.le_refl _) (cells #[.slice I H cP,.slice O nT V] 24))
 clear h h1 h2
 go_enter func10,ntmps10
 go_wp2_with fail
 refine Pi (HC.o _) λw1 b1=>?_
 have KY:=qh (Y.o.trans (b1.o.mono Y.o.size))
 go_wp2
 go_ret
 exact⟨rfl,KY.o⟩
end
section
open Go Go.RowKit
def uv(w:World)(a g n:Nat)(ms:MS n)(e:Ending)(w':World):Prop:=
 ∃(b:ms.1.β) (lb:Nat),e= returned (tuple #[lkP lb,J 0])/\ms.1.Good/\ms.1.ok ms.2 0/\ms.1.is b w' a g lb ms.2/\(∀x∈ms.1.fp b,w.heap.size<=x\/x=a\/x=g)/\min a g<=ms.1.bt b/\aa [a,g] w w'
def Awk(f:FuncId):Prop:=∀W,Calls prog f #[] W λe w'=>e= returned (bool true)/\Below W.heap.size W w'
end
section
open Go.RowKit
def tW(w:World):(callFunc 202 #[]).run prog w= .ok (.value (tuple #[])) w:=run_call_mark0 func202 ahs ahs ahs .disable ahs w
def xD(w:World):(callFunc 204 #[]).run prog w= .ok (.value (tuple #[])) w:=run_call_mark0 func204 ahs ahs ahs .enable ahs w
def rC(a:Addr)(w:World):(callFunc 205 #[.pointer (some a)]).run prog w= .ok (.value (tuple #[])) w:=run_call_marked func205 ahs ahs ahs .acquire ahs a w
def rD(a:Addr)(w:World):(callFunc 207 #[.pointer (some a)]).run prog w= .ok (.value (tuple #[])) w:=run_call_marked func207 ahs ahs ahs .releaseMerge ahs a w
def uZ(a:Addr)(w:World)(hc:w.cell? a=some (.int .i32 0))(H:w.frozen? a=false):E 198 #[.pointer (some a)] w λe w'=>e= returned (tuple #[])/\w'=w.setCell a (.int .i32 1):=by have hd:=tW;have Y:=xD;have V:=rC;have I:=run_call_cas_hit (P:=prog) func203 ahs ahs ahs .i32 ahs (y:=1) hc H;have h:(w.setCell a (.int .i32 1)).cell? a=some (.int .i32 1):=World.cell?_setCell_same w a _ hc;have O:=run_convert_to_unsafe (P:=prog) (src:=381) (dst:=375) Tryz.underlying381 Tryz.underlying375 ahs h;go_enter func198,ntmps198;go_wp2;first|(go_end0;exact⟨rfl,rfl⟩)|exact bodyPost_ret (results_none rfl _ _ _) rfl ⟨rfl,rfl⟩|((simp only[Exit.inBlock,Exit.then]);exact bodyPost_ret (results_none rfl _ _ _) rfl ⟨rfl,rfl⟩)
def yQ(a:Addr)(w:World)(hc:w.cell? a=some (.int .i32 0))(H:w.frozen? a=false):E 192 #[.pointer (some a)] w λe w'=>e= returned (tuple #[])/\w'=w.setCell a (.int .i32 1):=by have h:=qh (uZ a w hc H);go_enter func192,ntmps192;go_wp2_with fail;refine LT h.o ?_;go_wp2;first|(go_end0;exact⟨rfl,rfl⟩)|exact bodyPost_ret (results_none rfl _ _ _) rfl ⟨rfl,rfl⟩|((simp only[Exit.inBlock,Exit.then]);exact bodyPost_ret (results_none rfl _ _ _) rfl ⟨rfl,rfl⟩)
def qW(a:Addr)(w:World)(hc:w.cell? a=some (.int .i32 1))(h:w.frozen? a=false):E 199 #[.pointer (some a)] w λe w'=>e= returned (tuple #[])/\w'=w.setCell a (.int .i32 0):=by have hd:=tW;have O:=xD;have V:=rD;have H:=run_call_add (P:=prog) func208 ahs ahs ahs .i32 ahs (y:= -1) (s:=0) hc h (by simp[go_sem];rfl);have I:=run_convert_to_unsafe (P:=prog) (src:=381) (dst:=375) Tryz.underlying381 Tryz.underlying375 ahs hc;go_enter func199,ntmps199;go_wp2;first|(go_end0;exact⟨rfl,rfl⟩)|exact bodyPost_ret (results_none rfl _ _ _) rfl ⟨rfl,rfl⟩|((simp only[Exit.inBlock,Exit.then]);exact bodyPost_ret (results_none rfl _ _ _) rfl ⟨rfl,rfl⟩)
def mU(a:Addr)(u:FrameMode)(w:World)(hc:w.cell? a=some (.int .i32 1))(H:w.frozen? a=false):CallsD prog 193 #[.pointer (some a)] u w λe I w'=>I=u/\(e= returned (tuple #[])/\w'=w.setCell a (.int .i32 0)):=by have h:=qh (qW a w hc H);go_enter_d func193,ntmps193;go_wp2_with fail;refine LT h.o ?_;go_wp2;first|(go_end0;exact⟨rfl,rfl⟩)|exact bodyPost_ret (results_none rfl _ _ _) rfl ⟨rfl,rfl⟩|((simp only[Exit.inBlock,Exit.then]);exact bodyPost_ret (results_none rfl _ _ _) rfl ⟨rfl,rfl⟩)
def px(a:Addr)(x:Value)(u:FrameMode)(w:World)(hc:w.cell? a=some x)(V:w.frozen? a=false):CallsD prog 194 #[.pointer (some a),bool true] u w λe I w'=>I=u/\(e= returned (tuple #[])/\w'=w.drew.setCell a (.int .u32 1)):=by
  have H:w.drew.cell? a=some x:=by go_simp
  have h:w.drew.frozen? a=false:=by go_simp
  have O:=run_call_store (P:=prog) func200 ahs ahs ahs ahs (k:= .u32) (y:=1) H h;go_enter_d func194,ntmps194;go_wp2;go_region_calls;all_goals (go_end0;exact⟨rfl,rfl⟩)
def lJ(a:Addr)(n:Int)(w:World)(hc:w.cell? a=some (.int .u32 n)):E 183 #[.pointer (some a)] w λe w'=>e= returned (bool (n !=0))/\w=w':=by have h:=run_call_load (P:=prog) func191 ahs ahs ahs .u32 ahs hc;go_enter func183,ntmps183;exact aab
end
section
open Go.RowKit
def dq(b off:Nat)(w2:World):World:=(w2.drew.setCell ⟨b,off,none⟩ (.int .u32 1)).setCell ⟨b,off+1,none⟩ (.int .i32 0)
structure rY(b off:Nat)(w:World):Prop where
 c0:w.cell? ⟨b,off,none⟩=some (.int .u32 0)
 c1:w.cell? ⟨b,off+1,none⟩=some (.int .i32 1)
 f0:w.frozen? ⟨b,off,none⟩=false
 f1:w.frozen? ⟨b,off+1,none⟩=false
def CL(b off H:Nat)(x:Value)(w:World)(R:World->Prop)(h0:Z w b off (.int .u32 0))(h1:Z w b (off+1) (.int .i32 0))(f0:w.frozen? ⟨b,off,none⟩=false)(f1:w.frozen? ⟨b,off+1,none⟩=false)(Zo:H=170)(hc:E 170 #[x] (w.setCell ⟨b,off+1,none⟩ (.int .i32 1)) λe w2=>e= returned (tuple #[])/\rY b off w2/\R w2):E 184 #[pointer (some ⟨b,off,none⟩),.func (.func H) #[x] #[]] w λe w'=>e= returned (tuple #[])/\∃w2,R w2/\w'=dq b off w2:=by
  subst Zo;have I:=qh hc;have V:=qh (lJ ⟨b,off,none⟩ 0 (w.setCell ⟨b,off+1,none⟩ (.int .i32 1)) ((World.cell?_setCell_other _ ⟨b,off+1,none⟩ ⟨b,off,none⟩ _ ahq).trans h0));clear hc;go_enter_defers func184,ntmps184;go_wp2_with fail;refine LT (yQ ⟨b,off+1,none⟩ _ h1 f1) ?_;go_wp2_with fail;refine LT V.o ?_;go_wp2_with fail;refine Pi I.o λw2 h=>?_;go_wp2;refine leaves_cons (f:=194) (args:=#[pointer (some ⟨b,off,none⟩),bool true]) ahq (by simp[go_sem]) ?_;refine(px ⟨b,off,none⟩ (.int .u32 0) .returning _ h.o.1.c0 h.o.1.f0).mono ?_;rintro e u' Y ⟨rfl,rfl,rfl⟩;refine leaves_cons (f:=193) (args:=#[pointer (some ⟨b,off+1,none⟩)]) (by simp[settle]) (by simp[go_sem]) ?_;refine(mU ⟨b,off+1,none⟩ _ _ ?_ ?_).mono ?_;. exact(World.cell?_setCell_other _ ⟨b,off,none⟩ ⟨b,off+1,none⟩ _ ahq).trans h.o.1.c1
  . have:=h.o.1.f1;simp[this]
  rintro e u' Y ⟨rfl,rfl,rfl⟩;have O:∃w3,R w3/\(w2.drew.setCell ⟨b,off,none⟩ (.int .u32 1)).setCell ⟨b,off+1,none⟩ (.int .i32 0)=dq b off w3:=⟨w2,h.o.2,rfl⟩;simp[Leaves,settle,results,Tryz.results184];exact O
def sK(b off:Nat)(x:Value)(w:World)(R:World->Prop)(H:Z w b off (.int .u32 0))(h1:Z w b (off+1) (.int .i32 0))(f0:w.frozen? ⟨b,off,none⟩=false)(f1:w.frozen? ⟨b,off+1,none⟩=false)(hc:E 170 #[x] (w.setCell ⟨b,off+1,none⟩ (.int .i32 1)) λe w2=>e= returned (tuple #[])/\rY b off w2/\R w2):E 169 #[pointer (some ⟨b,off,none⟩),.func (.func 170) #[x] #[]] w λe w'=>e= returned (tuple #[])/\∃w2,R w2/\w'=dq b off w2:=by have O:=qh (CL b off _ x w R H h1 f0 f1 rfl hc);have I:=qh (lJ ⟨b,off,none⟩ 0 w H);clear hc;go_enter func169,ntmps169;go_wp2_with fail;refine LT I.o ?_;go_wp2_with fail;refine Pi O.o λw' h=>?_;go_wp2;first|(go_end0;exact⟨rfl,h.o⟩)|exact bodyPost_ret (results_none rfl _ _ _) rfl ⟨rfl,h.o⟩
def DD(b off:Nat)(H:Value)(w:World)(I:Z w b off (.int .u32 1)):E 169 #[pointer (some ⟨b,off,none⟩),H] w λe w'=>e= returned (tuple #[])/\w=w':=by have h:=qh (lJ ⟨b,off,none⟩ 1 w I);go_enter func169,ntmps169;go_wp2_with fail;refine LT h.o ?_;go_wp2;first|(go_end0;exact⟨rfl,rfl⟩)|exact bodyPost_ret (results_none rfl _ _ _) rfl ⟨rfl,rfl⟩
end
section
open Go.RowKit
def yF(l:List Int):∀u∈l.flatMap encI,u.oneCell'=true:=by intro u h;rw[iI]at h;obtain⟨x,_,rfl⟩:=List.mem_map.1 h;rfl
def BM(w:World):(w.alloc (cells #[] 3)).ownsRow w.heap.size 3 1 (slice (some ⟨w.heap.size,0,none⟩) 0 0) 0 []:=by exact⟨rfl,.inr ⟨w.heap.size,0,#[],rfl,Nat.le_refl _,heap_alloc_new w _,Nat.le_refl _,by simp[maxLen],rfl,rfl⟩⟩
def lQ(w:World)(v:Value)(l:List Int)(h:RdL w v 1 encI l)(ad:l.length<=1000):E 78 #[v] w λe w'=>∃v',e= returned v'/\w'.ownsRow w.heap.size 3 1 v' l.length (l.flatMap encI)/\Below w.heap.size w w':=by
  obtain⟨i0,hi,J5,J7,J2⟩:=info_parts Tryz.infoIn;refine ajg ?_;intro HI;clear hi J5 J7 J2;have HR:=qh h;obtain⟨A,cap,rfl,l1,l2,V⟩:=h;cases A with
  | none=>
    have hl:l=[]:=by
      rcases Nat.eq_zero_or_pos l.length with O|O
      . exact List.eq_nil_of_length_eq_zero O
      . obtain⟨b,off,e,_⟩:=V O;cases e
    subst hl;clear V HR;simp only[List.length_nil];have hn:=Lib.run_eql_slice_nil w 22 3 none 0 cap 0 0 Tryz.underlying22;simp only[Option.isNone]at hn;go_enter func78,ntmps78;go_wp2;go_ret;exact⟨_,rfl,World.ownsRow_nil _ _ _ _,Below.refl _ _⟩
  | some I=>
    have HN:=qh (show ∀(j:Nat) (u:Value),(l.flatMap encI)[j]? =some u->w.cell? (I.add j)=some u from by
      intro j u H;have Y:j<l.length:=(by have:=(List.getElem?_eq_some_iff.1 H).1;rw[iI]at this;simpa using this);obtain⟨b,off,e,_,hc⟩:=V ahp;injection e with e;subst e;obtain⟨x,hx⟩:=ai Y;have h1:=hc j x hx 0 _ rfl;rw[iI]at H;simp[hx]at H;subst H;have e2:(⟨b,off,none⟩:Addr).add j=⟨b,off+j,none⟩:=(by unfold Addr.add;by_cases ab:j=0<;>simp[ab]);rw[e2]
      simpa using h1)
    have Lc:(l.flatMap encI).length=l.length*1:=(by rw[iI];simp);have hn:=Lib.run_eql_slice_nil w 22 3 (some I) l.length cap 0 0 Tryz.underlying22;simp only[Option.isNone]at hn;clear V;go_enter func78,ntmps78;go_wp2_with (at_builtin;go_loud (refine wpList_append_own _ rfl _ _ 22 rfl w.heap.size 3 i0 (J 0) 1 8 Tryz.underlying22 HI.o.1 HI.o.2.1 HI.o.2.2.1 HI.o.2.2.2 rfl ahr _ 0 [] rfl (BM w) I l.length cap (l.flatMap encI) rfl Lc ?c1 (yF l) ?c3 ?c4 ?c5 ?_));case c1=>exact λj u H=>(World.cell?_alloc_lt _ _ _ (by have:=aM (HN.o j u H);exact this)).trans (HN.o j u H)
    case c3=>unfold maxLen;omega
    case c4=>omega
    case c5=>simp
    intro v' w' Nf Nb Pv;have HO:=qh (And.intro Nf Nb);clear Nf Nb Pv;go_wp2;go_ret;exact⟨_,rfl,by have:=HO.o.1;simpa using this,(((Below.refl _ _).alloc (Nat.le_refl _) _).grown HO.o.2 ahq (λj Y=>by simp[Value.ownBlock]at Y;omega))⟩
end
section
open Go.RowKit
def RdL.turns{α:Type}{v:Value}{enc:α->List Value}{l:List α}(h:RdL w v sz enc l)(k:aa S w w')(hn:∀g,v.ownBlock=some g->g∉S):RdL w' v sz enc l:=by obtain⟨A,cap,rfl,H,O,V⟩:=h;refine⟨A,cap,rfl,H,O,λhl=>?_⟩;obtain⟨b,off,rfl,I,hc⟩:=V hl;have Y:b∉S:=hn b rfl;refine⟨b,off,rfl,Nat.lt_of_lt_of_le I k.size,λi x hx j u hu=>?_⟩;rw[World.cell?_of_block (w:=w) (w':=w') (a:=⟨b,off+i*sz+j,none⟩) (k.block b I Y)];exact hc i x hx j u hu
def rz:Value:= .slice none 0 0
structure Jp(w:World)(b:Nat)(P T:List Int):Prop where
 ex:∃AP cP AT cT,Blk w b 213 #[.slice AP P.length cP,.slice AT T.length cT,.int .u32 0,.int .i32 0,.int .u32 0,.slice none 0 0,.slice none 0 0,.slice none 0 0,.slice none 0 0]/\RdL w (.slice AP P.length cP) 1 encI P/\RdL w (.slice AT T.length cT) 1 encI T/\(∀g,(Value.slice AP P.length cP).ownBlock=some g->g≠b)/\(∀g,(Value.slice AT T.length cT).ownBlock=some g->g≠b)
end
section
open Go.RowKit
structure eJ where
 e:TypeId
 v:Value
 n:Nat
 xs:List Value
structure fX(w:World)(B b:Nat)(l:List eJ):Prop where
 own:∀r∈l,w.ownsRow B r.e 1 r.v r.n r.xs
 ne:∀(i j:Nat) (r s:eJ),l[i]? =some r->l[j]? =some s->i≠j->∀g,r.v.ownBlock=some g->s.v.ownBlock≠some g
 nb:∀r∈l,r.v.ownBlock≠some b
section
variable{B:Nat}{l:List eJ}
def fX.below(h:fX w B b l)(k:Below w.heap.size w w'):fX w' B b l:=⟨λr V=>iZ (h.own r V) k,h.ne,h.nb⟩
def fX.turn(h:fX w B b l)(k:aa [b] w w'):fX w' B b l:=
 ⟨λr V=>aa.own (h.own r V) k (λg hg hm=>h.nb r V (by simp at hm;rw[<-hm];exact hg)),h.ne,h.nb⟩
def fX.app(h:fX w B b l){r:eJ}(hi:l[i]? =some r)(I:b<w.heap.size)(hg:w.grownBy w' r.v.ownBlock)(Y:w'.ownsRow B r.e 1 v' n' xs')(NT:v'.ownBlock=r.v.ownBlock\/∃g,w.heap.size<=g/\v'.ownBlock=some g):fX w' B b (l.set i ⟨r.e,v',n',xs'⟩):=by
  have Mv:i<l.length:=(List.getElem?_eq_some_iff.1 hi).1;have F':∀s∈l,∀g,s.v.ownBlock=some g->g<w.heap.size:=λs hs g hg=>((h.own s hs).lt g hg).2
  have Mb:∀(j:Nat) (s:eJ),(l.set i ⟨r.e,v',n',xs'⟩)[j]? =some s->(j=i/\s=⟨r.e,v',n',xs'⟩)\/(j≠i/\l[j]? =some s):=λj s H=>by
    rw[List.getElem?_set]at H;by_cases e:i=j;. subst e;rw[if_pos rfl,if_pos Mv]at H;injection H with H;exact .inl ⟨rfl,H.symm⟩
    . rw[if_neg e]at H;exact .inr ⟨λh=>e h.symm,H⟩
  have Sz:∀(j:Nat) (s:eJ),l[j]? =some s->j≠i->w'.ownsRow B s.e 1 s.v s.n s.xs:=λj s H E'=>by
    cases O:r.v.ownBlock with
    | none=>rw[O]at hg;exact aa.own (S:=[]) (h.own s (List.mem_of_getElem? H)) ⟨hg.os,hg.tape,hg.output,hg.size,λi hi _=>hg.block i hi ahq⟩ (λ_ _=>by simp)
    | some g=>
      rw[O]at hg
      exact aa.own (h.own s (List.mem_of_getElem? H)) (aa.grown hg) (λg' Na hm=>by
        simp at hm;subst hm
        exact h.ne i j r s hi H (λe=>E' e.symm) g' O Na)
  have Uj:∀g,v'.ownBlock=some g->r.v.ownBlock=some g\/w.heap.size<=g:=λg Na=>by
    rcases NT with e|⟨c,hc,e⟩
    . exact .inl (by rw[<-e];exact Na)
    . rw[e]at Na;injection Na with Na;exact .inr ahp
  refine⟨λs hs=>?_,λj k s t H hk E' g QY Lr=>?_,λs hs K9=>?_⟩
  . obtain⟨j,H⟩:=List.getElem?_of_mem hs;rcases Mb j s H with⟨rfl,rfl⟩|⟨e,Ml⟩
    . exact Y
    . exact Sz j s Ml e
  . rcases Mb j s H with⟨rfl,rfl⟩|⟨e1,Ml⟩
    . rcases Mb k t hk with⟨rfl,rfl⟩|⟨e2,Ko⟩
      . exact E' rfl
      . rcases Uj g QY with V|V
        . exact h.ne j k r t hi Ko E' g V Lr
        . have:=F' t (List.mem_of_getElem? Ko) g Lr;omega
    . rcases Mb k t hk with⟨rfl,rfl⟩|⟨e2,Ko⟩
      . rcases Uj g Lr with V|V
        . exact h.ne j k s r Ml hi E' g QY V
        . have:=F' s (List.mem_of_getElem? Ml) g QY;omega
      . exact h.ne j k s t Ml Ko E' g QY Lr
  . obtain⟨j,H⟩:=List.getElem?_of_mem hs;rcases Mb j s H with⟨rfl,rfl⟩|⟨e,Ml⟩
    . rcases Uj b K9 with V|V
      . exact h.nb r (List.mem_of_getElem? hi) V
      . omega
    . exact h.nb s (List.mem_of_getElem? Ml) K9
def fX.push(h:fX w B b l)(e:TypeId):fX w B b (l++[⟨e,.slice none 0 0,0,[]⟩]):=by
 have I:∀(j:Nat) (s:eJ),(l++[⟨e,.slice none 0 0,0,[]⟩])[j]? =some s->l[j]? =some s\/s=⟨e,.slice none 0 0,0,[]⟩:=λj s H=>by
  rw[List.getElem?_append]at H;split at H;.exact .inl H
  .rw[List.getElem?_singleton]at H;split at H;.injection H with H;exact .inr H.symm
   .cases H
 refine⟨λr V=>?_,λi j r s hi H Y g h1 O=>?_,λr V=>?_⟩
 .rcases List.mem_append.1 V with V|V
  .exact h.own r V
  .simp at V;subst V;exact World.ownsRow_nil _ _ _ _
 .rcases I i r hi with a|a
  .rcases I j s H with c|c
   .exact h.ne i j r s a c Y g h1 O
   .subst c;cases O
  .subst a;cases h1
 .rcases List.mem_append.1 V with V|V
  .exact h.nb r V
  .simp at V;subst V;simp[Value.ownBlock]
end
def upF(P:List Int):Nat->Int->List Int
 |0,_=>[]
 |f+1,v=>if 0<=v/\v<P.length then v :: upF P f (P.getD v.toNat 0)else[]
def upL(P:List Int)(v:Int):List Int:=upF P P.length v
def ao(P T:List Int)(k:Nat):List Int:=(T.take k).map (fD (ac P))
def cE(T:List Int)(i:Nat):Int:=(((T.take i).count (T.getD i 0):Nat):Int)
def aZ(T:List Int)(k:Nat):List Int:=(List.range k).map (cE T)
def aG(P T:List Int)(k:Nat):List Int:=(ac P).map λleaf=>(((T.take k).count leaf:Nat):Int)
def pE{P:List Int}(h:dT P=true):∀(f:Nat) (v:Int),v<f->∀g:Nat,v<g->upF P f v=upF P g v
 |0,v,O,g,hg=>by
  cases g with
  |zero=>rfl
  |succ g=>unfold upF;rw[if_neg ahp]
 |f+1,v,O,g,hg=>by
  cases g with
  |zero=>unfold upF;rw[if_neg ahp]
  |succ g=>
   unfold upF;split;.rename_i I;obtain⟨p,H⟩:=ai (show v.toNat<P.length by omega);have:=gC h H;rw[bh H,pE h f p ahp g ahp]
   .rfl
def gi(h:dT P=true){v:Nat}(H:P[v]? =some p):upL P v=(v:Int) :: upL P p:=by
 have I:=(List.getElem?_eq_some_iff.1 H).1;have O:=gC h H;unfold upL;rw[pE h P.length v ahp (v+1) ahp];show(if 0<=(v:Int)/\(v:Int)<P.length then(v:Int) :: upF P v (P.getD (v:Int).toNat 0)else[])=_;rw[if_pos ahp,Int.toNat_natCast,bh H];by_cases V:0<=p;.rw[pE h v p ahp P.length ahp]
 .cases v with
  |zero=>show _ :: []=_ :: upF P P.length p;exact aaf
  |succ v=>
   cases hn:P.length with
   |zero=>omega
   |succ n=>unfold upF;rw[if_neg ahp,if_neg ahp]
def xQ(h:p<0):upL P p=[]:=by unfold upL;exact aaf
end
section
open Go.RowKit
variable{α:Type}
def eX(vP vT:Value)(d m:Int)(vU vN vS vM:Value):Array Value:=#[vP,vT,.int .u32 d,.int .i32 m,.int .u32 0,vU,vN,vS,vM]
def JS(v:Value)(l:List Int):eJ:=⟨3,v,l.length,l.flatMap encI⟩
def eV(us:List Value)(v:Value):eJ:=⟨22,v,us.length,us⟩
structure jx(w0 w:World)(b:Nat)(vP vT:Value)(P T:List Int)(vL vU vN vS vM:Value)(us:List eJ)(k:Nat):Prop where
 blk:Blk w b 213 (eX vP vT 0 1 vU vN vS vM)
 rows:fX w w0.heap.size b ([JS vL (ac P),JS vM (aG P T k),JS vN (ao P T k),JS vS (aZ T k),eV (us.map (·.v)) vU]++us)
 len:us.length=k
 up:∀(i:Nat) (x:Int) (r:eJ),T[i]? =some x->us[i]? =some r->r=JS r.v (upL P x)
 bel:aa [b] w0 w
def vp(P T:List Int):(aG P T 0).flatMap encI=(List.range (ac P).length).map λ_=>Value.int .i64 0:=by
 rw[iI];unfold aG;rw[List.map_map];refine List.ext_getElem? λi=>?_;simp only[List.getElem?_map,Function.comp_def];by_cases h:i<(ac P).length;.simp[h]
 .simp[h]
def fX.single(w:World)(B b:Nat)(r:eJ)(h:w.ownsRow B r.e 1 r.v r.n r.xs)(I:r.v.ownBlock≠some b):fX w B b [r]:=by
 refine⟨by simpa using h,λi j x y hi H O=>?_,by simpa using I⟩;have V:i=0:=by have:=(List.getElem?_eq_some_iff.1 hi).1;simpa using this
 have Y:j=0:=by have:=(List.getElem?_eq_some_iff.1 H).1;simpa using this
 omega
structure eD(w0 w:World)(b:Nat)(cs:Array Value)(l:List eJ):Prop where
 blk:Blk w b 213 cs
 rows:fX w w0.heap.size b l
 bel:aa [b] w0 w
section
variable{cs:Array Value}{l:List eJ}
def eD.below(h:eD w0 w b cs l)(k:Below w.heap.size w w'):eD w0 w' b cs l:=⟨h.blk.below k h.blk.lt,h.rows.below k,h.bel.trans (aa.of_below k)⟩
def mD(h:aa [b] w0 w)(k:w.grownBy w' row)(V:∀g,row=some g->w0.heap.size<=g):aa [b] w0 w':=by
 cases row with
 |none=>exact h.trans ⟨k.os,k.tape,k.output,k.size,λi hi _=>k.block i hi ahq⟩
 |some g=>
  have h1:aa [b,g] w0 w':=(h.mono ahq).trans ((aa.grown k).mono ahq)
  exact h1.fresh (by
   intro i hi;simp only[List.mem_cons,List.not_mem_nil,or_false]at hi;rcases hi with rfl|rfl
   .exact .inl ahq
   .exact .inr (V _ rfl))
def eD.app(h:eD w0 w b cs l){r:eJ}(hi:l[i]? =some r)(o:Obj)(hg:(w.alloc o).grownBy w' r.v.ownBlock)(Y:w'.ownsRow w0.heap.size r.e 1 v' n' xs')(NT:v'.ownBlock=r.v.ownBlock\/v'.ownBlock=some (w.heap.size+1))(c:Nat):eD w0 (w'.setCell ⟨b,c,none⟩ v') b (cs.setIfInBounds c v') (l.set i ⟨r.e,v',n',xs'⟩):=by
  have O:Below w.heap.size w (w.alloc o):=(Below.refl _ _).alloc (Nat.le_refl _) o;have h1:=h.below O;have V:(w.alloc o).heap.size=w.heap.size+1:=by simp
  have I:aa [b] w' (w'.setCell ⟨b,c,none⟩ v'):=aa.setCell (aa.refl [b] w') (.inl ahq) _;have H:=List.mem_of_getElem? hi;refine⟨?_,(h1.rows.app hi h1.blk.lt hg Y (NT.imp id λe=>⟨_,Nat.le_of_eq V,e⟩)).turn I,(mD h1.bel hg (λg e=>((h1.rows.own r H).lt g e).1)).trans I⟩;exact(h1.blk.grown hg (λe=>h.rows.nb r H e.symm)).set_ c v'
def eD.put(h:eD w0 w b cs l){r:eJ}(hi:l[i]? =some r){g j:Nat}(hg:r.v.ownBlock=some g)(u:Value)(Y:(w.setCell ⟨g,j,none⟩ u).ownsRow w0.heap.size r.e 1 r.v r.n xs'):eD w0 (w.setCell ⟨g,j,none⟩ u) b cs (l.set i ⟨r.e,r.v,r.n,xs'⟩):=by
  have H:w.grownBy (w.setCell ⟨g,j,none⟩ u) r.v.ownBlock:=by rw[hg];exact yD (uX _ _) j u
  have I:=List.mem_of_getElem? hi;refine⟨h.blk.grown H (λe=>h.rows.nb r I e.symm),h.rows.app hi h.blk.lt H Y (.inl rfl),mD h.bel H (λg e=>((h.rows.own r I).lt g e).1)⟩
def eD.grow(h:eD w0 w b cs l){r:eJ}(hi:l[i]? =some r)(o:Obj)(hg:(w.alloc o).grownBy w' r.v.ownBlock)(Y:w'.ownsRow w0.heap.size r.e 1 v' n' xs')(V:v'.ownBlock=r.v.ownBlock\/v'.ownBlock=some (w.heap.size+1)):eD w0 w' b cs (l.set i ⟨r.e,v',n',xs'⟩):=by
  have I:Below w.heap.size w (w.alloc o):=(Below.refl _ _).alloc (Nat.le_refl _) o;have h1:=h.below I;have O:(w.alloc o).heap.size=w.heap.size+1:=by simp
  have H:=List.mem_of_getElem? hi;exact⟨h1.blk.grown hg (λe=>h.rows.nb r H e.symm),h1.rows.app hi h1.blk.lt hg Y (V.imp id λe=>⟨_,Nat.le_of_eq O,e⟩),mD h1.bel hg (λg e=>((h1.rows.own r H).lt g e).1)⟩
def eD.push(h:eD w0 w b cs l)(e:TypeId):eD w0 w b cs (l++[⟨e,.slice none 0 0,0,[]⟩]):=⟨h.blk,h.rows.push e,h.bel⟩
end
def jx.g{V Y:Value}{O I:Value}{H:List eJ}(h:jx w0 w b V Y P T vL O vN vS I H k):eD w0 w b (eX V Y 0 1 O vN vS I) ([JS vL (ac P),JS I (aG P T k),JS vN (ao P T k),JS vS (aZ T k),eV (H.map (·.v)) O]++H):=⟨h.blk,h.rows,h.bel⟩
def cW(h:k<=T.length):(ao P T k).length=k:=by unfold ao;simp;omega
def gf(T:List Int)(k:Nat):(aZ T k).length=k:=by simp[aZ]
def cQ(P T:List Int)(k:Nat):(aG P T k).length=(ac P).length:=by simp[aG]
def vE(h:T[k]? =some x):ao P T (k+1)=ao P T k++[fD (ac P) x]:=by unfold ao;rw[a7 h,List.map_append];rfl
def ni{l:List Int}(hm:x∈l)(h:fD l x=nd):l[nd]? =some x:=by
 unfold fD at h;rw[if_pos hm]at h;have e:l.idxOf x=nd:=by omega
 have H:=List.idxOf_lt_length_of_mem hm;rw[<-e,List.getElem?_eq_getElem H,List.getElem_idxOf H]
def qe(h:(ac P)[nd]? =some x):((aG P T k).flatMap encI)[nd]? =some (J (((T.take k).count x:Nat):Int)):=by rw[iI];unfold aG;simp[h]
theorem Tryz.infoSl:(prog.info? 22).map (λi=>(i.zero,i.size,i.bytes))=some (some (.slice none 0 0),1,24):=by kernel_rfl
def sZ(l:List α)(a:α)(i:Nat)(h:i=l.length):(l++[a])[i]? =some a:=by subst h;simp
def BG(l:List α)(a c:α)(i:Nat)(h:i=l.length):(l++[a]).set i c=l++[c]:=by subst h;simp
def CZ(P:List Int):∀(f:Nat) (v:Int),(upF P f v).length<=f
 |0,_=>Nat.le_refl _
 |f+1,v=>by
  unfold upF;split;.have:=CZ P f (P.getD v.toNat 0);rw[List.length_cons];omega
  .simp
def rQ(P:List Int)(v:Int):(upL P v).length<=P.length:=CZ P _ _
def q8(P:List Int):(ac P).Nodup:=by unfold ac ak;exact List.Pairwise.filter _ (List.Pairwise.map Int.ofNat (λa b h e=>h (Int.ofNat.inj e)) List.nodup_range)
def vo(h:T[k]? =some x)(H:(ac P)[nd]? =some x):((aG P T k).flatMap encI).set nd (J ((((T.take k).count x:Nat):Int)+1))=(aG P T (k+1)).flatMap encI:=by
  rw[iI,iI];unfold aG;rw[List.map_map,List.map_map];refine List.ext_getElem? λj=>?_;rw[List.getElem?_set];have O:=(List.getElem?_eq_some_iff.1 H).1;by_cases e:nd=j;. subst e;rw[if_pos rfl,List.length_map,if_pos O,List.getElem?_map,H,a7 h];simp
  . rw[if_neg e,List.getElem?_map,List.getElem?_map,a7 h];cases Y:(ac P)[j]? with
    | none=>rfl
    | some y=>have I:y≠x:=(by rintro rfl;obtain⟨a1,V⟩:=List.getElem?_eq_some_iff.1 H;obtain⟨b1,b2⟩:=List.getElem?_eq_some_iff.1 Y;exact e ((List.getElem_inj (q8 P)).1 (V.trans b2.symm)));simp[List.count_append,List.count_singleton,Ne.symm I]
def wg(h:T[k]? =some x):aZ T (k+1)=aZ T k++[(((T.take k).count x:Nat):Int)]:=by unfold aZ;rw[List.range_succ,List.map_append];show _++[cE T k]=_;unfold cE;rw[bh h]
def sR(w:World)(b:Nat)(AP AT:Option Addr)(cP cT:Nat)(P T:List Int)(hc:a5 P T=0)(hB:Blk w b 213 (eX (.slice AP P.length cP) (.slice AT T.length cT) 0 1 rz rz rz rz))(hP:RdL w (.slice AP P.length cP) 1 encI P)(hT:RdL w (.slice AT T.length cT) 1 encI T)(nP:∀g,(Value.slice AP P.length cP).ownBlock=some g->g≠b)(nT:∀g,(Value.slice AT T.length cT).ownBlock=some g->g≠b):E 170 #[↑b] w λe w'=>e= returned (tuple #[])/\∃vL O vN vS vM H,jx w w' b (.slice AP P.length cP) (.slice AT T.length cT) P T vL O vN vS vM H T.length:=by
  obtain⟨i0,hi,J5,J7,J2⟩:=info_parts Tryz.infoIn;refine ajg ?_;intro HI;clear hi J5 J7 J2;obtain⟨j0,hi,J5,J7,J2⟩:=info_parts Tryz.infoSl;have HJ:=qh (And.intro hi (And.intro J5 (And.intro J7 J2)));clear hi J5 J7 J2;obtain⟨hm,Oy,LL,WY⟩:=aQ hc;have Kx:=bi hm;have Lc:=a6 P P.length;have NZ:(ac P).length<=32:=by show(ak P P.length).length<=_;omega
  have Om:tv P T=ac P:=by unfold tv;rw[if_pos hc]
  have XJ:=qh hB;have NM:=qh (And.intro hP hT);have Lj:=qh (And.intro nP nT);have KM:=qh (And.intro Oy WY);have KP:=hB.lt;have f0:=hB.cell 0;have f1:=hB.cell 1;have Vj:=qh (uj w _ _ P T hP hT);rw[Om]at Vj;simp only[eX]at f0 f1;clear hc hB hP hT nP nT hm Oy LL WY Lc Om;go_enter func170,ntmps170;go_wp2_with fail;refine Vj.o.mono ?_;rintro en w1 ⟨v2,rfl,o2,b2⟩;obtain⟨A2,c2,rfl⟩:=a8 o2;have B2:=qh (XJ.o.below b2 KP);have JY:=b2.size;have c8:=B2.o.cell 8;have z8:=B2.o.free 8;simp only[eX,rz]at c8;have A0:=qh (fX.single w1 w.heap.size b (JS (.slice A2 (ac P).length c2) (ac P)) o2 (λe=>by have:=(o2.lt _ e).1;omega));have K2:=qh b2;clear o2 b2 f0 f1;go_wp2_with (refine wpList_make_full _ rfl (.tmp 15) (.tmp 15) 22 rfl w1.heap.size 3 i0 (J 0) 1 Tryz.underlying22 HI.o.1 HI.o.2.1 HI.o.2.2.1 .i64 .i64 (ac P).length (ac P).length (ac P).length rfl rfl rfl rfl ?b2 ?b3 (Nat.le_refl _) ?_);case b2=>rw[HI.o.2.2.2];omega
  case b3=>unfold maxLen;omega
  intro w3 r' hg;have OW:w3.ownsRow w1.heap.size 3 1 (slice (some ⟨w1.heap.size,0,none⟩) (ac P).length (ac P).length) (ac P).length ((aG P T 0).flatMap encI):=by rw[kI,<-vp P T]at r';exact r'
  have Mh:Below w1.heap.size w1 w3:=(Below.refl w1.heap.size w1).grown hg (Nat.le_refl _) (λj hj=>by cases hj);have B3:=qh (B2.o.below Mh B2.o.lt);have d8:=B3.o.cell 8;have y8:=B3.o.free 8;have d1:=B3.o.cell 1;simp only[eX,rz]at d8 d1;have HO:=qh (And.intro OW (And.intro hg Mh));clear r' OW hg Mh c8 z8
  have Ls:jx w (w3.setCell ⟨b,8,none⟩ (slice (some ⟨w1.heap.size,0,none⟩) (ac P).length (ac P).length)) b (.slice AP P.length cP) (.slice AT T.length cT) P T (.slice A2 (ac P).length c2) rz rz rz (slice (some ⟨w1.heap.size,0,none⟩) (ac P).length (ac P).length) [] 0:=by
    have Zb:b<w1.heap.size:=by omega
    have a1:=(A0.o.push 3).app (i:=1) (w':=w3) (v':= slice (some ⟨w1.heap.size,0,none⟩) (ac P).length (ac P).length) (n':=(aG P T 0).length) (xs':=(aG P T 0).flatMap encI) rfl Zb HO.o.2.1 (by
      have h:=de HO.o.1 K2.o.size;have e:(aG P T 0).length=(ac P).length:=by simp[aG]
      rw[e];exact h) (.inr ⟨_,Nat.le_refl _,rfl⟩)
    have a2:=a1.turn (w':=w3.setCell ⟨b,8,none⟩ (slice (some ⟨w1.heap.size,0,none⟩) (ac P).length (ac P).length)) (aa.setCell (aa.refl [b] w3) (.inl ahq) _);refine⟨B3.o.set_ 8 _,((a2.push 3).push 3).push 22,rfl,λi x r _ h=>by simp at h,?_⟩;exact((aa.of_below K2.o).trans (aa.of_below HO.o.2.2)).trans (aa.setCell (aa.refl [b] w3) (.inl ahq) _)
  have XN:=qh Ls;clear Ls;go_wp2_with fail;go_loopw [25] (λi wr=>∃(k:Nat) (O vN vS vM:Value) (H:List eJ),i= J k/\k<=T.length/\jx w wr b (.slice AP P.length cP) (.slice AT T.length cT) P T (.slice A2 (ac P).length c2) O vN vS vM H k) (λi _=>T.length-(intOf i).toNat);case atStart=>exact⟨0,_,_,_,_,[],rfl,by omega,XN.o⟩
  case round=>
    obtain⟨k,O,vN,vS,vM,H,rfl,hk,hF⟩:=hrel;obtain⟨wo,rfl⟩:∃wo:World,wo=wr:=⟨_,rfl⟩;have HF:=qh hF;clear hF d1 d8;by_cases F':k<T.length
    . obtain⟨x,hx⟩:=ai F';have SK:=jo KM.o.2 hx;have Mc:=gy (P:=P) (k:=P.length) SK;obtain⟨m,rfl⟩:=Int.eq_ofNat_of_zero_le Mc.2.1;have cp:m<P.length:=(by have:=Mc.2.2;omega);have RT:=NM.o.2.turns HF.o.bel (λg hg hm=>by simp at hm;exact Lj.o.2 g hg hm);obtain⟨bT,oT,rfl,bF,V8⟩:=fQ RT ahp;have q0:=V8 k _ hx;have RL:=dM (HF.o.rows.own (JS (.slice A2 (ac P).length c2) (ac P)) ahq) ahp;have RI:=qh (mj wo _ (ac P) m RL);obtain⟨nd,ab⟩:∃nd:Nat,fD (ac P) m=nd:=by have h0:=(eO (ac P) (m:Int)).1.2 SK;exact⟨(fD (ac P) m).toNat,by omega⟩
      have bA:nd<(ac P).length:=(by have:=(eO (ac P) (m:Int)).2.1;omega);rw[ab]at RI;have HX:=qh (And.intro hx (And.intro ab (ni SK ab)));have Sv:wo.ownsRow w.heap.size 3 1 vN (ao P T k).length ((ao P T k).flatMap encI):=HF.o.rows.own (JS vN (ao P T k)) ahq;rw[cW hk]at Sv;obtain⟨AN,cN,rfl⟩:=a8 Sv;have e6:=HF.o.blk.cell 6;have z6:=HF.o.blk.free 6;simp only[eX]at e6;clear hx SK Mc RT V8 RL ab
      go_wp2_with (first
        | (go_at_call 119;refine RI.o.mono ?_;rintro e w' ⟨rfl,rfl⟩)
        | (at_builtin;go_loud (refine wpList_append_own_at _ rfl _ _ 22 rfl w.heap.size 3 i0 (J 0) 1 8 Tryz.underlying22 HI.o.1 HI.o.2.1 HI.o.2.2.1 HI.o.2.2.2 rfl ahr _ _ _ rfl (Sv.alloc _) ⟨wo.heap.size,0,none⟩ 1 1 (encI nd) rfl rfl (cell_one_new _ _ _) (io _) ?c3 ?c4 ?c5 ?_)))
      case c3=>unfold maxLen;omega
      case c4=>omega
      case c5=>simp;have:=HF.o.bel.size;omega
      intro v' w4 Nf Nb Pv NT;obtain⟨V,Y,rfl⟩:=a8 Nf;have OJ:=(HF.o.blk.alloc (cells #[J nd] 3)).grown Nb (λe=>HF.o.rows.nb (JS (.slice AN k cN) (ao P T k)) ahq e.symm);have VA:=OJ.cell 6;have ad:=OJ.free 6;simp only[eX]at VA;obtain⟨w5,KV⟩:=LE (w4.setCell ⟨b,6,none⟩ (.slice V (k+1) Y));have TJ:eD w w5 b (eX (.slice AP P.length cP) (slice (some ⟨bT,oT,none⟩) T.length cT) 0 1 O (.slice V (k+1) Y) vS vM) ([JS (.slice A2 (ac P).length c2) (ac P),JS vM (aG P T k),⟨3,.slice V (k+1) Y,k+1,(ao P T k).flatMap encI++encI nd⟩,JS vS (aZ T k),eV (H.map (·.v)) O]++H):=by rw[KV];exact HF.o.g.app (i:=2) (r:=JS (.slice AN k cN) (ao P T k)) rfl (cells #[J nd] 3) Nb Nf NT 6
      rw[show(⟨3,.slice V (k+1) Y,k+1,(ao P T k).flatMap encI++encI nd⟩:eJ)=JS (.slice V (k+1) Y) (ao P T (k+1))from by
        unfold JS
        rw[cW ahp,vE HX.o.1,HX.o.2.1,iJ]]at TJ
      have L3:=qh TJ;clear Nf Nb Pv NT OJ TJ Sv e6 z6 q0;go_upto_region 7 with fail;rw[<-KV];clear KV VA ad;have Sw:w5.ownsRow w.heap.size 3 1 vS (aZ T k).length ((aZ T k).flatMap encI):=L3.o.rows.own (JS vS (aZ T k)) ahq;rw[gf]at Sw;obtain⟨AS,cS,rfl⟩:=a8 Sw;have NB:w5.ownsRow w.heap.size 3 1 vM (aG P T k).length ((aG P T k).flatMap encI):=L3.o.rows.own (JS vM (aG P T k)) ahq;rw[cQ]at NB;obtain⟨I,cM,rfl,ax,bc⟩:=gG NB ahp;have m0:=NB.cellAt nd ahp;rw[qe HX.o.2.2]at m0;have U1:=qh (L3.o.rows.nb (JS (.slice AS k cS) (aZ T k)) ahq);obtain⟨ct,Mt⟩:∃ct:Nat,ct=(T.take k).count (m:Int):=⟨_,rfl⟩;rw[<-Mt]at m0;have L2:=qh Mt;have c7:=L3.o.blk.cell 7;have c8:=L3.o.blk.cell 8;simp only[eX]at c7 c8;have Yd:=qh (And.intro Sw NB);have MJ:b<w5.heap.size:=L3.o.blk.lt;clear Mt Sw NB;go_cut [5] (λs5 wx=>s5= J (nd:Nat)/\∃O8,eD w wx b (eX (.slice AP P.length cP) (slice (some ⟨bT,oT,none⟩) T.length cT) 0 1 O (.slice V (k+1) Y) O8 (slice (some ⟨I,0,none⟩) (ac P).length cM)) ([JS (.slice A2 (ac P).length c2) (ac P),JS (slice (some ⟨I,0,none⟩) (ac P).length cM) (aG P T k),JS (.slice V (k+1) Y) (ao P T (k+1)),JS O8 (aZ T (k+1)),eV (H.map (·.v)) O]++H))
      case first=>
        go_region_law ((go_loud ((refine step_append_lies _ rfl _ _ 22 rfl w.heap.size 3 i0 (J 0) 1 8 Tryz.underlying22 HI.o.1 HI.o.2.1 HI.o.2.2.1 HI.o.2.2.2 rfl ahr _ _ _ rfl (show World.ownsRow (w5.alloc (cells #[J ct] 3)).drew w.heap.size 3 1 (.slice AS k cS) k ((aZ T k).flatMap encI)from Yd.o.1.alloc _) ⟨w5.heap.size,0,none⟩ 1 1 (encI ct) rfl rfl (λj u hj=>cell_one_new w5 (J ct) 3 j u hj) (io _) ahr (by unfold maxLen;omega) ahp (by simp;have:=L3.o.bel.size;omega) _ rfl ?_));intro g6 Qx w6 h6 TW Q1 bw;have Vv:=(L3.o.blk.alloc (cells #[J ct] 3)).drew.grown TW (λe=>U1.o e.symm);have YD:=Vv.cell 7;have cu:=Vv.free 7;simp only[eX]at YD))
        all_goals
          have QE:=(L3.o.below (w':=w5.drew) (Below.refl _ _).drew).app (i:=3) (r:=JS (.slice AS k cS) (aZ T k)) rfl (cells #[J ct] 3) TW h6 (Q1.imp (λe=>e.symm) (λe=>by rw[e];simp[Value.ownBlock])) 7;have MC:=qh QE;clear QE h6 TW Q1;go_wp2_with fail;go_meet
          case rel=>
            have h:eD w ((w6.setCell ⟨b,7,none⟩ (slice (some ⟨g6,0,none⟩) (k+1) Qx))) b (eX (.slice AP P.length cP) (slice (some ⟨bT,oT,none⟩) T.length cT) 0 1 O (.slice V (k+1) Y) (slice (some ⟨g6,0,none⟩) (k+1) Qx) (slice (some ⟨I,0,none⟩) (ac P).length cM)) ([JS (.slice A2 (ac P).length c2) (ac P),JS (slice (some ⟨I,0,none⟩) (ac P).length cM) (aG P T k),JS (.slice V (k+1) Y) (ao P T (k+1)),⟨3,slice (some ⟨g6,0,none⟩) (k+1) Qx,k+1,(aZ T k).flatMap encI++encI ct⟩,eV (H.map (·.v)) O]++H):=MC.o
            rw[show(⟨3,slice (some ⟨g6,0,none⟩) (k+1) Qx,k+1,(aZ T k).flatMap encI++encI ct⟩:eJ)=JS (slice (some ⟨g6,0,none⟩) (k+1) Qx) (aZ T (k+1))from by
              unfold JS
              rw[gf,wg HX.o.1,<-L2.o,iJ]]at h
            exact⟨rfl,_,h⟩
      case rest=>
        obtain⟨rfl,O8,QE⟩:=hcut;have MC:=qh QE;clear QE c7 c8 m0 U1 MJ;have NB:wc.ownsRow w.heap.size 3 1 (slice (some ⟨I,0,none⟩) (ac P).length cM) (aG P T k).length ((aG P T k).flatMap encI):=MC.o.rows.own (JS (slice (some ⟨I,0,none⟩) (ac P).length cM) (aG P T k)) ahq;rw[cQ]at NB;have m0:=NB.cellAt nd ahp;rw[qe HX.o.2.2,<-L2.o]at m0;have y0:=NB.frozenAt nd;have J0:=NB.stored nd (J ((ct:Int)+1));have c8:=MC.o.blk.cell 8;simp only[eX]at c8;have al:ct<=32:=(by rw[L2.o];have h1:=List.count_le_length (l:=T.take k) (a:=(m:Int));have h2:=List.length_take_le k T;omega);have KZ:=qh J0;clear J0 NB;go_upto_region 9 with fail
        have Pn:eD w (wc.setCell ⟨I,nd,none⟩ (J ((ct:Int)+1))) b (eX (.slice AP P.length cP) (slice (some ⟨bT,oT,none⟩) T.length cT) 0 1 O (.slice V (k+1) Y) O8 (slice (some ⟨I,0,none⟩) (ac P).length cM)) ([JS (.slice A2 (ac P).length c2) (ac P),JS (slice (some ⟨I,0,none⟩) (ac P).length cM) (aG P T (k+1)),JS (.slice V (k+1) Y) (ao P T (k+1)),JS O8 (aZ T (k+1)),eV (H.map (·.v)) O]++H):=by
          have h:=MC.o.put (i:=1) (r:=JS (slice (some ⟨I,0,none⟩) (ac P).length cM) (aG P T k)) rfl (g:=I) (j:=nd) rfl (J ((ct:Int)+1)) (xs':=(aG P T (k+1)).flatMap encI) (by
            have h1:=KZ.o.1;rw[L2.o,vo HX.o.1 HX.o.2.2,<-L2.o]at h1;show World.ownsRow _ _ _ 1 _ (aG P T k).length _;rw[cQ]
            exact h1)
          have e:(⟨3,slice (some ⟨I,0,none⟩) (ac P).length cM,(aG P T k).length,(aG P T (k+1)).flatMap encI⟩:eJ)=JS (slice (some ⟨I,0,none⟩) (ac P).length cM) (aG P T (k+1)):=(by unfold JS;rw[cQ,cQ]);rw[<-e];exact h
        have UY:=qh (Pn.push 3);clear Pn m0 y0 c8;obtain⟨w7,W4⟩:=LE (wc.setCell ⟨I,nd,none⟩ (J ((ct:Int)+1)));rw[<-W4]at UY ⊢;clear W4;go_wp2_with fail;go_loopw [6,7] (λs6 s7 wr=>∃(z:Int) (dn:List Int),s7= J z/\z<P.length/\upL P m=dn++upL P z/\(dn.length:Int)+z<=m/\eD w wr b (eX (.slice AP P.length cP) (slice (some ⟨bT,oT,none⟩) T.length cT) 0 1 O (.slice V (k+1) Y) O8 (slice (some ⟨I,0,none⟩) (ac P).length cM)) (([JS (.slice A2 (ac P).length c2) (ac P),JS (slice (some ⟨I,0,none⟩) (ac P).length cM) (aG P T (k+1)),JS (.slice V (k+1) Y) (ao P T (k+1)),JS O8 (aZ T (k+1)),eV (H.map (·.v)) O]++H)++[JS s6 dn])) (λ_ s7 _=>(intOf s7+1).toNat);case atStart=>exact⟨m,[],rfl,by omega,rfl,by simp,UY.o⟩
        case round=>
          obtain⟨z,dn,rfl,hz,L9,Oj,hG⟩:=hrel;obtain⟨wi,rfl⟩:∃wi:World,wi=wr:=⟨_,rfl⟩;have OD:=qh hG;have bW:dn.length<=P.length:=(by have h1:=congrArg List.length L9;rw[List.length_append]at h1;have h2:(upL P m).length<=P.length:=rQ P m;omega);have Rd:wi.ownsRow w.heap.size 3 1 u6 dn.length (dn.flatMap encI):=hG.rows.own (JS u6 dn) ahq;have Vn:=qh L9;clear hG L9;by_cases h0:0<=z
          . obtain⟨n,rfl⟩:=Int.eq_ofNat_of_zero_le h0;have hn:n<P.length:=(by omega);obtain⟨q,hq⟩:=ai hn;have SD:=gC KM.o.1 hq;have HQ:=qh (gi KM.o.1 hq);have X8:=qh hq;obtain⟨A6,c6,rfl⟩:=a8 Rd;clear hq;go_wp2_with (at_builtin;go_loud (refine wpList_append_own_at _ rfl _ _ 22 rfl w.heap.size 3 i0 (J 0) 1 8 Tryz.underlying22 HI.o.1 HI.o.2.1 HI.o.2.2.1 HI.o.2.2.2 rfl ahr _ _ _ rfl (Rd.alloc _) ⟨wi.heap.size,0,none⟩ 1 1 (encI n) rfl rfl (cell_one_new _ _ _) (io _) ?d3 ?d4 ?d5 ?_));case d3=>unfold maxLen;omega
            case d4=>omega
            case d5=>simp;have:=OD.o.bel.size;omega
            intro v8 w8 WJ Wl ZW VY;have QF:=OD.o.grow (i:=5+H.length) (r:=JS (.slice A6 dn.length c6) dn) (sZ _ _ _ ahu) (cells #[J n] 3) Wl WJ VY;rw[BG _ _ _ _ ahu]at QF;have MD:=qh QF;have RP:=NM.o.1.turns QF.bel (λg hg hm=>by simp at hm;exact Lj.o.1 g hg hm);have x0:=QF.blk.cell 0;simp only[eX]at x0;obtain⟨bP,oP,YV,_,V7⟩:=fQ RP ahp;have x1:=V7 n q X8.o;rw[show(⟨(JS (.slice A6 dn.length c6) dn).e,v8,dn.length+1,dn.flatMap encI++encI n⟩:eJ)=JS v8 (dn++[(n:Int)])from by unfold JS;rw[iJ,List.length_append];rfl]at MD;clear WJ Wl ZW VY QF RP V7 Rd;subst YV;go_wp2;go_roundw;case rel=>exact⟨q,dn++[(n:Int)],rfl,by omega,by rw[Vn.o,HQ.o];simp,by simp;omega,MD.o⟩
            case measure=>simp[intOf];omega
          . have XL:=qh (show dn=upL P m from by have h:=Vn.o;rw[xQ (P:=P) (p:=z) ahp,List.append_nil]at h;exact h.symm);obtain⟨A6,c6,rfl⟩:=a8 Rd;have O5:H.length=k:=HF.o.len;have Sx:wi.ownsRow w.heap.size 22 1 O (H.map (·.v)).length (H.map (·.v)):=(by have h:=OD.o.rows.own (eV (H.map fun(r:eJ)=>r.v) O) ahq;exact h);rw[List.length_map,O5]at Sx;obtain⟨AV,cV,rfl⟩:=a8 Sx;have x5:=OD.o.blk.cell 5;simp only[eX]at x5;have Qq:=qh O5;clear Rd O5;go_wp2_with (at_builtin;go_loud (refine wpList_append_own_at _ rfl _ _ 211 rfl w.heap.size 22 j0 (.slice none 0 0) 1 24 Tryz.underlying211 HJ.o.1 HJ.o.2.1 HJ.o.2.2.1 HJ.o.2.2.2 rfl ahr _ _ _ rfl (Sx.alloc _) ⟨wi.heap.size,0,none⟩ 1 1 [.slice A6 dn.length c6] rfl rfl (cell_one_new _ _ _) ahU ?e3 ?e4 ?e5 ?_));case e3=>unfold maxLen;omega
            case e4=>omega
            case e5=>have h9:=OD.o.bel.size;first|omega|(simp;omega)|exact Nat.le_trans h9 ahq
            intro v9 w9 Uk TZ ZX VZ;obtain⟨A9,c9,rfl⟩:=a8 Uk;have L5:=(OD.o.blk.alloc (cells #[.slice A6 dn.length c6] 22)).grown TZ (λe=>OD.o.rows.nb (eV (H.map fun(r:eJ)=>r.v) (.slice AV k cV)) ahq e.symm);have e9:=L5.cell 5;have z9:=L5.free 5;simp only[eX]at e9;have QG:=OD.o.app (i:=4) (r:=eV (H.map fun(r:eJ)=>r.v) (.slice AV k cV)) rfl (cells #[.slice A6 dn.length c6] 22) TZ Uk VZ 5;have S3:=qh QG;clear Uk TZ ZX VZ L5 QG Sx;go_wp2
            have XO:=qh (show jx w (w9.setCell ⟨b,5,none⟩ (.slice A9 (k+1) c9)) b (.slice AP P.length cP) (slice (some ⟨bT,oT,none⟩) T.length cT) P T (.slice A2 (ac P).length c2) (.slice A9 (k+1) c9) (.slice V (k+1) Y) O8 (slice (some ⟨I,0,none⟩) (ac P).length cM) (H++[JS (.slice A6 dn.length c6) dn]) (k+1)from by
              have e:(⟨22,.slice A9 (k+1) c9,k+1,(H.map fun(r:eJ)=>r.v)++[.slice A6 dn.length c6]⟩:eJ)=eV ((H++[JS (.slice A6 dn.length c6) dn]).map fun(r:eJ)=>r.v) (.slice A9 (k+1) c9):=(by unfold eV;simp[Qq.o,JS]);refine⟨S3.o.blk,?_,by simp[Qq.o],λi x r hT hU=>?_,S3.o.bel⟩;. rw[<-e];exact S3.o.rows
              . by_cases Zu:i<k;. rw[List.getElem?_append_left (by rw[Qq.o];exact Zu)]at hU;exact HF.o.up i x r hT hU
                . have Zv:i=k:=(by have h1:=(List.getElem?_eq_some_iff.1 hU).1;rw[List.length_append,List.length_singleton,Qq.o]at h1;omega);subst Zv;rw[sZ _ _ _ Qq.o.symm]at hU;injection hU with hU;rw[HX.o.1]at hT;injection hT with hT
                  rw[<-hU,<-hT,<-XL.o];rfl)
            go_roundw;case rel=>exact⟨k+1,_,_,_,_,_,by go_num,by omega,XO.o⟩
            case measure=>simp[intOf];omega
    . obtain rfl:k=T.length:=by omega
      go_wp2;go_end0;exact⟨rfl,_,_,_,_,_,_,HF.o⟩
end
section
open Go.RowKit
structure iC(w:World)(b:Nat)(P T:List Int):Prop where
 ok:a5 P T=0
 ex:∃AP cP AT cT vU vN vS vM us,Blk w b 213 (eX (.slice AP P.length cP) (.slice AT T.length cT) 1 0 vU vN vS vM)/\RdL w (.slice AP P.length cP) 1 encI P/\RdL w (.slice AT T.length cT) 1 encI T/\
  RdL w vN 1 encI (ao P T T.length)/\RdL w vS 1 encI (aZ T T.length)/\RdL w vM 1 encI (aG P T T.length)/\
  RdL w vU 1 (λv=>[v]) us/\us.length=T.length/\∀(i:Nat) (x:Int) (v:Value),T[i]? =some x->us[i]? =some v->RdL w v 1 encI (upL P x)
def iC.below(h:iC w b P T)(k:Below w.heap.size w w'):iC w' b P T:=by obtain⟨H,cP,I,O,vU,vN,vS,vM,us,h1,V,Y,h4,h5,h6,h7,h8,h9⟩:=h.ex;exact⟨h.ok,H,cP,I,O,vU,vN,vS,vM,us,h1.below k h1.lt,V.below k (Nat.le_refl _),Y.below k (Nat.le_refl _),h4.below k (Nat.le_refl _),h5.below k (Nat.le_refl _),h6.below k (Nat.le_refl _),h7.below k (Nat.le_refl _),h8,λi x v a c=>(h9 i x v a c).below k (Nat.le_refl _)⟩
def eT(w:World)(b:Nat)(P T:List Int)(h:iC w b P T):E 133 #[↑b] w λe w'=>e= .returned ↑b/\w=w':=by obtain⟨V,cP,Y,cT,vU,vN,vS,vM,us,H,_⟩:=h.ex;have c2:=H.cell 2;simp only[eX]at c2;have I:=qh (λO=>DD b 2 O w c2);clear h H c2;go_enter func133,ntmps133;go_wp2_with fail;refine LT (I.o _) ?_;go_wp2;go_ret;exact⟨rfl,rfl⟩
end
section
open Go.RowKit
def Tab(w:World)(b:Nat)(P T:List Int):Prop:=a5 P T=0/\(Jp w b P T\/iC w b P T)
def iC.tab(h:iC w b P T):Tab w b P T:=⟨h.ok,.inr h⟩
def Tab.thr(h:Tab w b P T):∃H I,Z w b 1 (.slice H T.length I):=by
 rcases h.2 with O|O
 .obtain⟨V,cP,H,I,h1,_⟩:=O.ex;exact⟨H,I,h1.cell 1⟩
 .obtain⟨V,cP,H,I,vU,vN,vS,vM,Y,h1,_⟩:=O.ex;exact⟨H,I,h1.cell 1⟩
def d9(w:World)(b:Nat)(P T:List Int)(h:Tab w b P T):E 136 #[↑b] w λe w'=>e= returned (J (T.length:Nat))/\w=w':=by obtain⟨H,I,c1⟩:=h.thr;clear h;go_enter func136,ntmps136;go_wp2;go_ret;exact⟨rfl,rfl⟩
def FQ(T:List Int)(i:Int):Bool:=decide (0<=i/\i<T.length)
def xm(w:World)(b:Nat)(P T:List Int)(i:Int)(r:Bool)(V:FQ T i=r)(h:Tab w b P T):E 132 #[↑b,J i] w λe w'=>e= returned (.bool r)/\w=w':=by
  have I:=qh (d9 w b P T h);have H:=qh V;clear h V;go_enter func132,ntmps132;by_cases O:0<=i;. go_wp2_with fail;refine LT I.o ?_;go_wp2;go_ret;exact⟨az (by rw[<-H.o];simp[FQ,O]),rfl⟩
  . go_wp2;go_ret;exact⟨az (by rw[<-H.o];unfold FQ;symm;exact decide_eq_false ahp),rfl⟩
end
section
open Go.RowKit
variable{hi:Nat}{v:Value}{α:Type}
structure gK(lo:Nat)(w:World)(b:Nat)(P T:List Int):Prop where
 low:lo<=b
 ex:∃AP cP AT cT,Blk w b 213 #[.slice AP P.length cP,.slice AT T.length cT,.int .u32 0,.int .i32 0,.int .u32 0,.slice none 0 0,.slice none 0 0,.slice none 0 0,.slice none 0 0]/\RdL w (.slice AP P.length cP) 1 encI P/\RdL w (.slice AT T.length cT) 1 encI T/\(∀g,(Value.slice AP P.length cP).ownBlock=some g->g≠b)/\(∀g,(Value.slice AT T.length cT).ownBlock=some g->g≠b)/\
  (∀g,(Value.slice AP P.length cP).ownBlock=some g->lo<=g)/\(∀g,(Value.slice AT T.length cT).ownBlock=some g->lo<=g)
def RdB(lo hi:Nat)(w:World)(v:Value)(sz:Nat){α:Type}(enc:α->List Value)(l:List α):Prop:=RdL w v sz enc l/\(0<l.length->∀g,v.ownBlock=some g->lo<=g/\g<hi)
def RdB.keep{enc:α->List Value}{l:List α}(h:RdB lo hi w v sz enc l)(k:∀i,lo<=i->i<hi->w'.heap[i]? =w.heap[i]?)(hs:hi<=w'.heap.size):RdB lo hi w' v sz enc l:=by refine⟨?_,h.2⟩;obtain⟨A,cap,rfl,V,Y,h4⟩:=h.1;refine⟨A,cap,rfl,V,Y,λO=>?_⟩;obtain⟨b,off,rfl,I,hc⟩:=h4 O;have H:=h.2 O b rfl;refine⟨b,off,rfl,by omega,λi x hx j u hu=>?_⟩;rw[World.cell?_of_block (w:=w) (w':=w') (a:=⟨b,off+i*sz+j,none⟩) (k b H.1 H.2)];exact hc i x hx j u hu
def RdB.of{enc:α->List Value}{l:List α}(h:RdL w v sz enc l)(H:∀g,v.ownBlock=some g->lo<=g)(hs:hi=w.heap.size):RdB lo hi w v sz enc l:=by refine⟨h,λV g hg=>⟨H g hg,?_⟩⟩;obtain⟨A,cap,rfl,_,_,O⟩:=h;obtain⟨b,off,rfl,I,_⟩:=O V;injection hg with hg;subst hg;rw[hs];exact I
structure lH(lo hi:Nat)(w:World)(b:Nat)(P T:List Int):Prop where
 ok:a5 P T=0
 low:lo<=b
 high:b<hi
 ex:∃AP cP AT cT vU vN vS vM us,Blk w b 213 (eX (.slice AP P.length cP) (.slice AT T.length cT) 1 0 vU vN vS vM)/\RdB lo hi w (.slice AP P.length cP) 1 encI P/\RdB lo hi w (.slice AT T.length cT) 1 encI T/\
  RdB lo hi w vN 1 encI (ao P T T.length)/\RdB lo hi w vS 1 encI (aZ T T.length)/\RdB lo hi w vM 1 encI (aG P T T.length)/\
  RdB lo hi w vU 1 (λv=>[v]) us/\us.length=T.length/\∀(i:Nat) (x:Int) (v:Value),T[i]? =some x->us[i]? =some v->RdB lo hi w v 1 encI (upL P x)
def lH.f(h:lH lo hi w b P T):iC w b P T:=by exact aag
def lH.keep(h:lH lo hi w b P T)(k:∀i,lo<=i->i<hi->w'.heap[i]? =w.heap[i]?)(hs:hi<=w'.heap.size):lH lo hi w' b P T:=by obtain⟨H,cP,I,O,vU,vN,vS,vM,us,h1,V,Y,h4,h5,h6,h7,h8,h9⟩:=h.ex;exact⟨h.ok,h.low,h.high,H,cP,I,O,vU,vN,vS,vM,us,(k b h.low h.high).trans h1,V.keep k hs,Y.keep k hs,h4.keep k hs,h5.keep k hs,h6.keep k hs,h7.keep k hs,h8,λi x v a c=>(h9 i x v a c).keep k hs⟩
def iU(w:World)(Y vT:Value)(P T:List Int)(hP:RdL w Y 1 encI P)(hT:RdL w vT 1 encI T)(hc:a5 P T=0):E 63 #[agg #[Y,vT]] w λe w'=>∃b,e= returned (tuple #[pointer (some ⟨b,0,none⟩),J 0])/\w.heap.size<=b/\gK w.heap.size w' b P T/\Below w.heap.size w w':=by
  have HC:=ke (w.alloc (cells #[Y,vT] 24)) Y vT P T (hP.alloc _) (hT.alloc _);rw[hc]at HC;have RH:=qh HC;have Ks:=qh ((Below.refl w.heap.size w).alloc (Nat.le_refl _) (cells #[Y,vT] 24));have NM:=qh (And.intro hP hT);have Kx:=bi (aQ hc).1;obtain⟨I,cP,rfl,SL,SM⟩:=bX hP;obtain⟨O,V,rfl,Qb,Qc⟩:=bX hT;have HX:=qh (show(w.alloc (cells #[.slice I P.length cP,.slice O T.length V] 24)).cell? w.heap.size=some (.slice I P.length cP)/\(w.alloc (cells #[.slice I P.length cP,.slice O T.length V] 24)).cell? ⟨w.heap.size,1,none⟩=some (.slice O T.length V)by simp[World.cell?_alloc_new]);have LK:w.heap.size<(w.alloc (cells #[.slice I P.length cP,.slice O T.length V] 24)).heap.size:=by simp
  clear hP hT hc HC;go_enter func63,ntmps63;go_wp2_with fail;refine ST RH.o λw1 b1=>?_;have f0:=(b1.cell (p:=w.heap.size) LK).trans HX.o.1;have f1:=(b1.cell (p:=⟨w.heap.size,1,none⟩) LK).trans HX.o.2;have JZ:=b1.size;simp at JZ;have H:=qh (Ks.o.trans (b1.mono Ks.o.size));have U9:=qh (λW (h:Below w1.heap.size w1 W)=>And.intro (NM.o.1.below (H.o.trans (h.mono H.o.size)) (Nat.le_refl _)) (NM.o.2.below (H.o.trans (h.mono H.o.size)) (Nat.le_refl _)));have bd:Below w1.heap.size w1 w1.drew:=(Below.refl _ _).drew;clear b1;go_wp2_with fail
  go_region_held3 (λW=>W.cell? w.heap.size=some (.slice I P.length cP)/\Z W w.heap.size 1 (.slice O T.length V))
    (first|exact⟨f0,f1⟩|exact⟨(k3.cell (p:=w.heap.size) (show w.heap.size<w1.heap.size by omega)).trans f0,(k3.cell (p:=⟨w.heap.size,1,none⟩) (show w.heap.size<w1.heap.size by omega)).trans f1⟩|exact⟨(k2.cell (p:=w.heap.size) (show w.heap.size<w1.heap.size by omega)).trans f0,(k2.cell (p:=⟨w.heap.size,1,none⟩) (show w.heap.size<w1.heap.size by omega)).trans f1⟩|exact⟨((k3.alloc k3.size _).cell (p:=w.heap.size) (show w.heap.size<w1.heap.size by omega)).trans f0,((k3.alloc k3.size _).cell (p:=⟨w.heap.size,1,none⟩) (show w.heap.size<w1.heap.size by omega)).trans f1⟩)
    (first
      | (go_at_call 78;with_reducible refine(lQ _ _ P (U9.o _ bd).1 ahp).mono ?_;rintro e w2 ⟨v2,rfl,o2,b2⟩;obtain⟨A2,c2,rfl⟩:=a8 o2;(have k2:Below w1.heap.size w1 w2:=bd.trans (b2.mono ahq));have O2:=qh o2;clear o2)
      | (go_at_call 78;with_reducible refine(lQ _ _ T (U9.o _ k2).2 ahp).mono ?_;rintro e w3 ⟨v3,rfl,o3,b3⟩;obtain⟨A3,c3,rfl⟩:=a8 o3;(have k3:Below w1.heap.size w1 w3:=k2.trans (b3.mono k2.size));have O3:=qh o3;clear o3))
  all_goals
    have KI:=k3.size;have e2:∀g,(Value.slice A2 P.length c2).ownBlock=some g->g≠w3.heap.size:=λg hg=>by have:=(O2.o.lt g hg).2;have:=b3.size;omega
    have e3:∀g,(Value.slice A3 T.length c3).ownBlock=some g->g≠w3.heap.size:=λg hg=>by have:=(O3.o.lt g hg).2;omega
    have M0:=qh (show gK w.heap.size (w3.alloc (cells #[.slice A2 P.length c2,.slice A3 T.length c3,.int .u32 0,.int .i32 0,.int .u32 0,.slice none 0 0,.slice none 0 0,.slice none 0 0,.slice none 0 0] 213)) w3.heap.size P T from
      ⟨Nat.le_trans H.o.size KI,A2,c2,A3,c3,Blk.new _ _ _,(dM (iZ O2.o b3) ahp).alloc _,(dM O3.o ahp).alloc _,e2,e3,λg hg=>by have h1:w1.heap.size<=g:=(O2.o.lt g hg).1;have:=H.o.size;omega,λg hg=>by have h1:w2.heap.size<=g:=(O3.o.lt g hg).1;have:=H.o.size;have:=k2.size;omega⟩)
    have Pb:=qh ((H.o.trans (k3.mono H.o.size)).alloc (Nat.le_trans H.o.size KI) (cells #[.slice A2 P.length c2,.slice A3 T.length c3,.int .u32 0,.int .i32 0,.int .u32 0,.slice none 0 0,.slice none 0 0,.slice none 0 0,.slice none 0 0] 213));go_wp2;go_ret2;exact⟨_,rfl,Nat.le_trans H.o.size KI,M0.o,Pb.o⟩
def lz{w2:World}{H I:Option Addr}{cP:Nat}{vU vM:Value}{us:List eJ}(hc:a5 P T=0)(h:jx w1 w2 b (.slice H P.length cP) (.slice I T.length cT) P T vL vU vN vS vM us T.length)(hP:RdL w1 (.slice H P.length cP) 1 encI P)(hT:RdL w1 (.slice I T.length cT) 1 encI T)(nP:∀g,(Value.slice H P.length cP).ownBlock=some g->g≠b)(nT:∀g,(Value.slice I T.length cT).ownBlock=some g->g≠b)(Kp:lo<=b)(Kg:b<w1.heap.size)(lP:∀g,(Value.slice H P.length cP).ownBlock=some g->lo<=g)(lT:∀g,(Value.slice I T.length cT).ownBlock=some g->lo<=g):lH lo (dq b 2 w2).heap.size (dq b 2 w2) b P T/\aa [b] w1 (dq b 2 w2):=by
  refine ai4 ?_;intro Kx Lc k0 k1 V;have MQ:∀r∈([JS vL (ac P),JS vM (aG P T T.length),JS vN (ao P T T.length),JS vS (aZ T T.length),eV (us.map (·.v)) vU]++us),∀g,r.v.ownBlock=some g->lo<=g:=λr hm g hg=>by have:=((V r hm).lt g hg).1;omega
  refine⟨⟨hc,Kp,by have:=k1.size;omega,H,cP,I,cT,vU,vN,vS,vM,us.map (·.v),?_,RdB.of (hP.turns k1 (λg hg hm=>by simp at hm;exact nP g hg hm)) lP rfl,RdB.of (hT.turns k1 (λg hg hm=>by simp at hm;exact nT g hg hm)) lT rfl,RdB.of ?_ (MQ (JS vN (ao P T T.length)) ahq) rfl,RdB.of ?_ (MQ (JS vS (aZ T T.length)) ahq) rfl,RdB.of ?_ (MQ (JS vM (aG P T T.length)) ahq) rfl,RdB.of ?_ (MQ (eV (us.map (·.v)) vU) ahq) rfl,by simp[h.len],λi x v hi O=>?_⟩,k1⟩;. exact((h.blk.drew).set_ 2 (.int .u32 1)).set_ 3 (.int .i32 0)
  . exact dM (V (JS vN (ao P T T.length)) ahq) (by rw[cW (Nat.le_refl _)];omega)
  . exact dM (V (JS vS (aZ T T.length)) ahq) (by rw[gf];omega)
  . exact dM (V (JS vM (aG P T T.length)) ahq) (by rw[cQ];omega)
  . have h1:=V (eV (us.map (·.v)) vU) ahq;refine ajD ?_;intro e;exact h1
  . rw[List.getElem?_map]at O;cases hu:us[i]? with
    | none=>rw[hu]at O;cases O
    | some r=>rw[hu]at O;injection O with O;subst O;have OY:=h.up i x r hi hu;have Y:=V r ah2;rw[OY]at Y;refine RdB.of (dM Y (by have:=rQ P x;omega)) (λg hg=>MQ r ah2 g ?_) rfl;rw[OY];exact hg
def qR(lo:Nat)(w:World)(b:Nat)(P T:List Int)(hc:a5 P T=0)(h:gK lo w b P T):E 133 #[↑b] w λe w'=>e= .returned ↑b/\lH lo w'.heap.size w' b P T/\aa [b] w w':=by
  have O:=h.low;have I:b<w.heap.size:=by obtain⟨_,_,_,_,hB,_⟩:=h.ex;exact hB.lt
  obtain⟨AP,cP,AT,cT,hB,hP,hT,nP,nT,V,lT⟩:=h.ex;refine ajc ?_;intro k0 NQ Mg hf
  have HD:=qh (sK b 2 ↑b w (λw2=>lH lo (dq b 2 w2).heap.size (dq b 2 w2) b P T/\aa [b] w (dq b 2 w2)) (hB.cell 2) (hB.cell 3) (hB.free 2) (hB.free 3)
    (hf.mono λe w2 ⟨he,vL,vU,vN,vS,vM,us,H⟩=>⟨he,⟨H.blk.cell 2,H.blk.cell 3,H.blk.free 2,H.blk.free 3⟩,(lz hc H NQ Mg nP nT O (by simpa[World.setCell]using I) V lT).1,k0.trans (lz hc H NQ Mg nP nT O (by simpa[World.setCell]using I) V lT).2⟩))
  clear hf NQ Mg hB hP hT nP nT V lT k0 hc h O I;go_enter func133,ntmps133;go_wp2_with fail;refine HD.o.mono ?_;rintro en w' ⟨rfl,w2,Y,hw⟩;have HR:=qh (show lH lo w'.heap.size w' b P T/\aa [b] w w' by rw[hw];exact Y);clear Y hw;go_wp2;go_ret;exact⟨rfl,HR.o⟩
def Ge(lo:Nat)(w:World)(b:Nat)(P T:List Int)(hc:a5 P T=0)(h:gK lo w b P T):E 137 #[↑b] w λe w'=>e= returned (J ((ac P).length:Nat))/\lH lo w'.heap.size w' b P T/\aa [b] w w':=by have O:=qh (qR lo w b P T hc h);clear h hc;go_enter func137,ntmps137;go_wp2_with fail;refine Pi O.o λw' H=>?_;have V:=qh (And.intro H.o.1 H.o.2);obtain⟨AP,cP,AT,cT,vU,vN,vS,vM,us,h1,h2,h3,h4,h5,I,h7,h8,h9⟩:=H.o.1.f.ex;obtain⟨AM,cM,rfl,_,_⟩:=bX I;have Y:=h1.cell 8;simp only[eX,cQ]at Y;clear h1 h2 h3 h4 h5 I h7 h8 h9;go_wp2;go_ret;exact⟨rfl,V.o⟩
def jN(w:World)(b:Nat)(P T:List Int)(i:Nat)(hi:i<T.length)(h:iC w b P T)(x:Int)(Y:(ao P T T.length)[i]? =some x):E 100 #[↑b,J i] w λe w'=>e= returned (J x)/\w=w':=by have HF:=qh (eT w b P T h);have HH:=qh (xm w b P T i true (decide_eq_true ahp) h.tab);have HX:=qh Y;have M1:=qh h;clear h Y;go_enter func100,ntmps100;go_wp2_with fail;refine LT HH.o ?_;go_wp2_with fail;refine LT HF.o ?_;have O:=M1.o;obtain⟨AP,cP,AT,cT,vU,vN,vS,vM,us,h1,h2,h3,H,h5,h6,h7,h8,h9⟩:=O.ex;have V:(ao P T T.length).length=T.length:=cW (Nat.le_refl _);obtain⟨AM,cM,rfl,_,_⟩:=bX H;obtain⟨b1,o1,hA,_,I⟩:=fQ H ahp;subst hA;have q1:=I i x HX.o;have c8:=h1.cell 6;rw[V]at *;simp only[eX]at c8;clear O h1 h2 h3 H h5 h6 h7 h8 h9 I V;go_wp2;go_ret;exact⟨rfl,rfl⟩
end
section
open Go Go.RowKit
def zP(W:World){n:Nat}(ms:MS n)(P T:List Int)(e:Ending)(w':World):Prop:=
 ∃(X:WoB ms.1) (lo:Nat),e= returned (tuple #[lkP X.wb,J 0])/\ms.1.Good/\ms.1.ok ms.2 0/\bj X w' ms.2/\(∀x∈ms.1.fp X.b,W.heap.size<=x)/\(W.heap.size<=X.wb/\W.heap.size<=ms.1.bt X.b)/\(ms.1.hi X.b<=lo/\W.heap.size<=X.tb/\X.tb<X.wb/\gK lo w' X.tb P T)/\Below W.heap.size W w'
def gK.below(h:gK lo w b P T)(t:Below w.heap.size w w'):gK lo w' b P T:=by obtain⟨h1,I,cP,O,V,H,Y,h4,h5⟩:=h;exact⟨h1,I,cP,O,V,H.below t H.lt,Y.below t (Nat.le_refl _),h4.below t (Nat.le_refl _),h5⟩
def Iz{vP:Value}{AT:Option Addr}{gl pa bu:Nat}{H:MS T.length}(hP:RdL W vP 1 encI P)(hT:RdL W (.slice AT T.length cT) 1 encI T)(Pq:a5 P T=0)(LO:H.1.rd=decide (11<=(k:Int)/\(k:Int)<=13))(HN:∀gs a g,Below W.heap.size W gs->aB gs a g (dP 4096)->W.heap.size<=a->W.heap.size<=g->E 13 #[pointer (some ⟨a,0,none⟩),agg #[vP,.slice AT T.length cT],agg #[J k,J gl,J lo,J pa,J bu]] gs (uv gs a g T.length H)):E 20 #[agg #[vP,.slice AT T.length cT],agg #[J k,J gl,J lo,J pa,J bu]] W (zP W H P T):=by
  refine ai5 ?_;intro JX w0 J1;rw[<-J1]at JX;refine ajk ?_;intro PA k1 k2
  have HC:=qh (λgs (h:Below w0.heap.size w0 gs)=>show gs.cell? W.heap.size=some vP/\Z gs W.heap.size 1 (.slice AT T.length cT)/\Z gs (W.heap.size+1) 0 (J k)/\Z gs (W.heap.size+1) 1 (J gl)/\Z gs (W.heap.size+1) 2 (J lo)/\Z gs (W.heap.size+1) 3 (J pa)/\gs.cell? ⟨W.heap.size+1,4,none⟩=some (J bu)from
    ⟨(k1.below h k1.lt).cell 0,(k1.below h k1.lt).cell 1,(k2.below h k2.lt).cell 0,(k2.below h k2.lt).cell 1,(k2.below h k2.lt).cell 2,(k2.below h k2.lt).cell 3,(k2.below h k2.lt).cell 4⟩)
  have NM:=qh (λgs (h:Below w0.heap.size w0 gs)=>And.intro (RdL.below (RdL.below hP JX (Nat.le_refl _)) h ahp) (RdL.below (RdL.below hT JX (Nat.le_refl _)) h ahp));have Y:=qh JX;have LI:=qh J1;have LW:=qh HN;have NO:=qh LO;clear hP hT JX J1 k1 k2 HN LO;go_enter func20,ntmps20;go_wp2_with fail;rw[<-LI.o];refine(tP w0 4096).mono ?_;rintro en w1 ⟨a,g,rfl,V,ha,hg,b1⟩;obtain⟨c0,c1,c2,c3,c4,c5,c6⟩:=HC.o w1 b1;have Ns:a<w1.heap.size:=V.blk.lt;have Ol:g<w1.heap.size:=V.wds.lt;have HL:=qh (LW.o w1 a g (Y.o.trans (b1.mono Y.o.size)) V ahp ahp);have B1:=qh (And.intro b1 V);have JZ:=b1.size;clear b1 V;go_wp2_with fail;refine HL.o.mono ?_;rintro en w2 ⟨b,lb,rfl,hG,mP,O,Kh,OP,t2⟩;have JY:=t2.size;have M6:Below w0.heap.size w0 w2:=B1.o.1.trans (t2.below (λi hi=>by simp at hi;rcases hi with rfl|rfl<;>omega) B1.o.1.size);have I:=qh (And.intro M6 (And.intro hG (And.intro mP (And.intro O Kh))));have XH:=qh (show W.heap.size<=H.1.bt b by omega);have Ua:=(hG.fpa _ _ _ _ _ _ O).2;clear c0 c1 c2 c3 c4 c5 c6 hG mP O Kh OP t2;obtain⟨c0,c1,c2,c3,c4,c5,c6⟩:=HC.o w2 M6;clear M6;have HN:=qh (iU w2 vP (.slice AT T.length cT) P T (NM.o w2 I.o.1).1 (NM.o w2 I.o.1).2 Pq);unfold lkP;go_wp2_with fail;refine HN.o.mono ?_;rintro en w3 ⟨tb,rfl,Ox,h3,b3⟩;have KI:=b3.size;obtain⟨-,-,c0,-,-,-,-⟩:=HC.o w3 (I.o.1.trans (b3.mono I.o.1.size));have B3:=qh (And.intro b3 h3);have Ux:tb<w3.heap.size:=by obtain⟨_,_,_,_,_,hk,_⟩:=h3;exact hk.lt
  clear b3 h3;go_wp2_with fail;refine LT (xH _ _ H.1.rd NO.o) ?_
  have HF:=qh (show zP W H P T (returned (tuple #[↑w3.heap.size,J 0])) (w3.alloc (cells #[pointer (some ⟨a,0,none⟩),↑tb,↑lb,.bool H.1.rd] 121))from by
    have QN:=(Below.refl w3.heap.size w3).alloc (Nat.le_refl _) (cells #[pointer (some ⟨a,0,none⟩),↑tb,↑lb,.bool H.1.rd] 121);obtain⟨G,mP,O,Kh⟩:=I.o.2;have F':=(G.fpa _ _ _ _ _ _ O).1;refine⟨⟨b,a,g,w3.heap.size,lb,tb,w3.heap.size+1⟩,w2.heap.size,rfl,G,mP,⟨?_,Blk.new _ _ _,λhm=>?_,by show H.1.hi b<=w3.heap.size+1;omega,by show w3.heap.size<w3.heap.size+1;omega,by simp⟩,λx hx=>?_,⟨by show W.heap.size<=w3.heap.size;omega,XH.o⟩,⟨Ua,by show W.heap.size<=tb;omega,by show tb<w3.heap.size;omega,B3.o.2.below QN⟩,?_⟩;. exact G.far _ _ _ _ _ _ _ [] O (aa.of_below (B3.o.1.trans (QN.mono ahp))) ahq
    . have:w3.heap.size<H.1.hi b:=F' _ hm;omega
    . have:=Kh x hx;omega
    . exact(Y.o.trans ((I.o.1.trans (B3.o.1.mono I.o.1.size)).mono Y.o.size)).trans (QN.mono ahp))
  go_wp2;go_ret2;exact HF.o
end
section
open Go Go.RowKit
def spV(a0 a1 a2 a3:Nat):Value:= agg #[J ((1+a3%13:Nat):Int),J ((1+a0%5:Nat):Int),J ((1+a1%5:Nat):Int),J ((1+a2/4%4:Nat):Int),J ((a2%4:Nat):Int)]
def Gu(w:World)(a0 a1 H O:Nat)(h0:a0<256)(h1:a1<256)(h2:H<256)(h3:O<256):E 21 #[agg #[.int .u8 a0,.int .u8 a1,.int .u8 H,.int .u8 O]] w λe w'=>e= returned (spV a0 a1 H O)/\Below w.heap.size w w':=by
  have x1:IntKind.i64.wrap (1+(a0:Int)%5)=1+(a0:Int)%5:=IntWalk.i64_in _ ahp;have x2:IntKind.i64.wrap (1+(a1:Int)%5)=1+(a1:Int)%5:=IntWalk.i64_in _ ahp;have x3:IntKind.i64.wrap (1+(H:Int)/4%4)=1+(H:Int)/4%4:=IntWalk.i64_in _ ahp;have x4:IntKind.i64.wrap (1+(O:Int)%13)=1+(O:Int)%13:=IntWalk.i64_in _ ahp;obtain⟨w0,V⟩:=LE ((w.alloc (cells #[.int .u8 a0,.int .u8 a1,.int .u8 H,.int .u8 O] 25)).alloc (cells #[J 0,J 0,J 0,J 0,J 0] 38));have I:Below w.heap.size w w0:=by rw[V];exact((Below.refl w.heap.size w).alloc (Nat.le_refl _) _).alloc ahq _
  have k1:Blk w0 w.heap.size 25 #[.int .u8 a0,.int .u8 a1,.int .u8 H,.int .u8 O]:=by rw[V];exact(Blk.new w _ _).alloc _
  have k2:Blk w0 (w.heap.size+1) 38 #[J 0,J 0,J 0,J 0,J 0]:=by rw[V];exact Blk.new' _ _ _ ahq
  have h:=qh (And.intro I k2);have Y:=qh V;have c0:=k1.cell 0;have c1:=k1.cell 1;have c2:=k1.cell 2;have c3:=k1.cell 3;clear I k1 k2 V;go_enter func21,ntmps21;go_upto_region 1 with fail;rw[<-Y.o];have z0:=h.o.2.free 0;have z1:=h.o.2.free 1;have z2:=h.o.2.free 2;have z3:=h.o.2.free 3;have z4:=h.o.2.free 4;have y0:=h.o.2.cell 0;have y1:=h.o.2.cell 1;have y2:=h.o.2.cell 2;have y3:=h.o.2.cell 3;have y4:=h.o.2.cell 4;go_wp2;exact bodyPost_ret (results_cell_row aht _ _ (w.heap.size+1) 38 _ (0,0) _ aht (by exact((((h.o.2.set_ 0 _).set_ 1 _).set_ 2 _).set_ 3 _).set_ 4 _) Tryz.underlying38 rfl ahs) rfl ⟨by unfold spV;simp,((((h.o.1.setCell (Nat.le_succ _) _).setCell (Nat.le_succ _) _).setCell (Nat.le_succ _) _).setCell (Nat.le_succ _) _).setCell (Nat.le_succ _) _⟩
end
section
open Go Go.RowKit
def zR(mf:(P T:List Int)->Nat->Nat->Nat->Nat->Nat->MS T.length):Prop:=∀(W:World) (vP:Value) (AT:Option Addr) (cT:Nat) (P T:List Int) (k gl lo pa bu:Nat),RdL W vP 1 encI P->RdL W (.slice AT T.length cT) 1 encI T->a5 P T=0->1<=k/\k<=13->1<=gl/\gl<=5->1<=lo/\lo<=5->1<=pa/\pa<=4->bu<=3->
 E 20 #[agg #[vP,.slice AT T.length cT],agg #[J k,J gl,J lo,J pa,J bu]] W (zP W (mf P T gl lo pa bu k) P T)
end
section
open Go.RowKit
def iC.upAt(h:iC w b P T)(Y:T[k]? =some x):∃b1 o1 H A c,Z w b 5 (slice (some ⟨b1,o1,none⟩) T.length H)/\Z w b1 (o1+k) (.slice A (upL P x).length c)/\RdL w (.slice A (upL P x).length c) 1 encI (upL P x)/\T.length<=H/\b1<w.heap.size:=by obtain⟨AP,cP,AT,cT,vU,vN,vS,vM,us,h1,h2,h3,h4,h5,h6,h7,h8,h9⟩:=h.ex;have hk:=(List.getElem?_eq_some_iff.1 Y).1;obtain⟨v,O⟩:=ai (show k<us.length by omega);have V:=h9 k x v Y O;obtain⟨A,c,rfl,_,_⟩:=bX V;obtain⟨AU,cU,rfl,m1,m2,m3⟩:=h7;obtain⟨b1,o1,rfl,I,hc⟩:=m3 ahp;have c5:=h1.cell 5;simp only[eX,h8]at c5;exact⟨b1,o1,cU,A,c,c5,by simpa using hc k _ O 0 _ rfl,V,by omega,I⟩
end
section
open Go.RowKit
def wH{v:Int}(h:v<0):upL P v=[]:=xQ h
def Jg(h:dT P=true):∀(v:Nat),v<P.length->(upL P v).length=depL P v/\∀(i:Nat) (u:Int),(upL P v)[i]? =some u->0<=u/\u<P.length/\(upL P v).drop i=upL P u/\depL P u+i=depL P v:=by
 intro v;induction v using Nat.strongRecOn with
 |_ v ih=>
  intro O;obtain⟨p,I⟩:=ai O;have hl:=gC h I;rw[gi h I,iE h I];by_cases V:0<=p
  .obtain⟨n,rfl⟩:=Int.eq_ofNat_of_zero_le V;obtain⟨h1,h2⟩:=ih n ahp ahp;rw[if_pos V];refine⟨by rw[List.length_cons,h1],λi u H=>?_⟩;cases i with
   |zero=>simp at H;subst H;exact⟨by omega,by omega,by rw[List.drop_zero,gi h I],by rw[iE h I,if_pos V]⟩
   |succ i=>rw[List.getElem?_cons_succ]at H;obtain⟨a1,Y,a3,a4⟩:=h2 i u H;exact⟨a1,Y,by rw[List.drop_succ_cons];exact a3,by omega⟩
  .rw[if_neg V,wH ahp];refine⟨rfl,λi u H=>?_⟩;cases i with
   |zero=>simp at H;subst H;exact⟨by omega,by omega,by rw[List.drop_zero,gi h I,wH ahp],by rw[iE h I,if_neg V]⟩
   |succ i=>simp at H
def xd{v:Nat}(O:v<P.length):1<=depL P v:=oq O
def pG(h:dT P=true)(H:0<=x)(I:x<P.length):(upL P x).length=depL P x/\∀(i:Nat) (u:Int),(upL P x)[i]? =some u->0<=u/\u<P.length/\(upL P x).drop i=upL P u/\depL P u+i=depL P x:=by obtain⟨n,rfl⟩:=Int.eq_ofNat_of_zero_le H;exact Jg h n ahp
def qo(h:dT P=true)(O:0<=x)(hl:x<P.length):1<=depL P x/\(upL P x)[depL P x-1]? =some 0:=by
 have hp:1<=depL P x:=by obtain⟨n,rfl⟩:=Int.eq_ofNat_of_zero_le O;exact xd ahp
 refine⟨hp,?_⟩;obtain⟨h1,h2⟩:=pG h O hl;obtain⟨u,V⟩:=ai (show depL P x-1<(upL P x).length by omega);obtain⟨a1,a2,a3,a4⟩:=h2 _ u V;obtain⟨n,rfl⟩:=Int.eq_ofNat_of_zero_le a1;obtain⟨p,Y⟩:=ai (show n<P.length by omega);have hd:=iE h Y;have ht:=xO h Y
 have H:n=0:=by
  rcases Nat.eq_zero_or_pos n with e|e
  .exact e
  .have I:=ht.2 e;rw[if_pos I.1]at hd;obtain⟨m,rfl⟩:=Int.eq_ofNat_of_zero_le I.1;have:=xd (P:=P) (v:=m) ahp;omega
 subst H;exact V
end
end Go.Proofs.YtglokdbiggbkjaaGreat
