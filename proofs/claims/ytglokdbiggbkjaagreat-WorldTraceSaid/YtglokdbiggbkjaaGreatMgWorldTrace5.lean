/- Joined texts. -/
import Derived.Laws.OwnMore
import Derived.OwnWalk
import Derived.Maps.AppendAt
import Derived.Deep.RegionHeld3
import Derived.Deep.DeepCutAuto
import Derived.Test.YtglokdbiggbkjaaGreatRows
import Derived.Tactics
import Derived.Tactics2
import Derived.Defers
import Derived.Laws.Pointers
import Derived.Laws.LoneSync
import Derived.RegionTactic
import Derived.RegionCalls
import Derived.ChangeAlike
import Derived.Test.YtglokdbiggbkjaaGreatMgWorldTrace0
import Derived.Test.YtglokdbiggbkjaaGreatMgWorldTrace2
import Derived.Test.YtglokdbiggbkjaaGreatMgWorldTrace4
set_option linter.unusedVariables false
set_option linter.unusedSimpArgs false
set_option linter.defProp false
set_option maxRecDepth 100000
set_option maxHeartbeats 16000000
open Go.Proofs.Tryz
namespace Go.Proofs.YtglokdbiggbkjaaGreat
open Go.IntKind(i64)
open Go.Value(int bool slice agg tuple pointer)
open Go.Ending(returned)
open Go.Obj(cells)
variable{k b sz i g:Nat}{w w':World}{P l T:List Int}{x p:Int}{S:List Nat}
section
open Go.RowKit
def ky{f:Nat->Bool}{n:Nat}(H:k<n)(h:f k=false):(List.range n).all f=false:=by rw[List.all_eq_false];exact⟨k,List.mem_range.2 H,by simp[h]⟩
def uF(w:World)(v:Value)(P:List Int)(h:RdL w v 1 encI P):E 82 #[v] w λe w'=>e= returned (bool (dX P))/\w=w':=by
  obtain⟨A,cap,rfl,l1,l2,V⟩:=h;have HR:=qh V;clear V;go_enter func82,ntmps82;go_wp2;go_loop [7] (λi=>∃k:Nat,i= J k/\k<=P.length/\(List.range k).all (okP P)=true) (λi=>P.length-(intOf i).toNat);case atStart=>exact⟨0,rfl,by omega,rfl⟩
  case round=>
    obtain⟨k,rfl,hk,Y⟩:=hrel;by_cases C':k<P.length
    . obtain⟨bl,off,rfl,Lf,hc⟩:=HR.o ahy;obtain⟨p,hp⟩:=ai C';have c0:=hc k p hp 0 _ rfl;simp only[Nat.add_zero,Nat.mul_one]at c0;have HP:=qh (And.intro (bp hp) Y);clear hc hp Y;by_cases H:(k=0->p= -1)/\(0<k->0<=p/\p<k)
      . have I:Kq ((List.range (k+1)).all (okP P)=true):=qh (by
          rw[j3,HP.o.2];simp only[Bool.true_and]
          exact decide_eq_true (by rw[HP.o.1];exact H))
        by_cases O:k=0
        . have e1:=H.1 O;subst O;subst e1;simp only[Nat.add_zero]at c0;go_wp2;go_round;case rel=>exact⟨1,by rfl,by omega,I.o⟩
          case measure=>simp[intOf];omega
        . obtain⟨e1,e2⟩:=H.2 ahy;have t0:((k:Int)==0)=false:=(by rw[beq_eq_false_iff_ne];omega);have t1:decide (0<k)=true:=decide_eq_true ahy;have t2:decide (p<0)=false:=decide_eq_false ahy;have t3:decide ((k:Int)<=p)=false:=decide_eq_false ahy;clear H O;go_wp2;go_round;case rel=>exact⟨k+1,by go_num,by omega,I.o⟩
          case measure=>simp[intOf];omega
      . have I:Kq (dX P=false):=qh (ky C' (decide_eq_false (by rw[HP.o.1];exact H)));by_cases O:k=0;. subst O;simp only[Nat.add_zero]at c0;have t1:(p != -1)=true:=(by rw[bne_iff_ne];intro h;exact H ⟨λ_=>h,by omega⟩);clear H;go_wp2;go_ret;exact⟨az I.o.symm,rfl⟩
        . have t0:((k:Int)==0)=false:=(by rw[beq_eq_false_iff_ne];omega);have t1:decide (0<k)=true:=decide_eq_true ahy;by_cases KK:p<0;. clear H O;go_wp2;go_ret;exact⟨az I.o.symm,rfl⟩
          . have t3:decide ((k:Int)<=p)=true:=decide_eq_true ahy;have t2:decide (p<0)=false:=decide_eq_false ahy;clear H O;go_wp2;go_ret;exact⟨az I.o.symm,rfl⟩
    . obtain rfl:k=P.length:=by omega
      have I:Kq (dX P=true):=qh Y;clear Y;go_wp2;go_ret;exact⟨az I.o.symm,rfl⟩
def sX(b:Bool):List Value:=[.bool b]
def Bh(b:Bool):(sX b).length=1:=rfl
theorem Tryz.infoBool:(prog.info? 4).map (λi=>(i.zero,i.size,i.bytes))=some (some (bool false),1,1):=by kernel_rfl
theorem Tryz.infoIn:(prog.info? 3).map (λi=>(i.zero,i.size,i.bytes))=some (some (J 0),1,8):=by kernel_rfl
def kV(u:Value)(n:Nat):(madeCells #[u] n).toList=(List.range n).map λ_=>u:=by unfold madeCells;rw[Array.toList_map,Array.toList_range];refine List.map_congr_left λi _=>?_;simp[Nat.mod_one]
def tV{α:Type}(enc:α->Value)(l:List α):l.map enc=l.flatMap (λx=>[enc x]):=by
 induction l with
 |nil=>rfl
 |cons a l h=>rw[List.map_cons,List.flatMap_cons,h];rfl
def gC(P:List Int)(k:Nat):List Bool:=(List.range P.length).map fun(u:Nat)=>decide ((u:Int)∈P.take k)
def mG(P:List Int)(k:Nat):(gC P k).flatMap sX=(List.range P.length).map fun(u:Nat)=>Value.bool (decide ((u:Int)∈P.take k)):=by unfold gC;show List.flatMap (λx=>[Value.bool x]) _=_;rw[<-tV Value.bool,List.map_map];rfl
def kC(P:List Int)(k:Nat):(gC P k).length=P.length:=by simp[gC]
def yQ(w:World)(v:Value)(P:List Int)(h:RdL w v 1 encI P)(ht:dX P=true)(NN:P.length<=1000):E 117 #[v] w λe w'=>∃v',e= returned v'/\RdL w' v' 1 sX (gC P P.length)/\Below w.heap.size w w':=by
  obtain⟨i0,hi,Kt,Kv,ab⟩:=info_parts Tryz.infoBool;obtain⟨A,cap,rfl,l1,l2,V⟩:=h;have HR:=qh V;have HT:=qh ht;clear V ht;go_enter func117,ntmps117;go_wp2_with (refine wpList_make_full _ rfl (.tmp 7) (.tmp 7) 220 rfl w.heap.size 4 i0 (bool false) 1 Tryz.underlying220 hi Kt Kv .i64 .i64 P.length P.length P.length rfl rfl rfl rfl ?b2 ?b3 (Nat.le_refl _) ?_);case b2=>rw[ab];omega
  case b3=>unfold maxLen;omega
  intro w1 H hg;have Pn:w1.ownsRow w.heap.size 4 1 (slice (some ⟨w.heap.size,0,none⟩) P.length P.length) P.length ((gC P 0).flatMap sX):=by rw[mG];have e:(madeCells #[Value.bool false] P.length).toList=(List.range P.length).map fun(u:Nat)=>Value.bool (decide ((u:Int)∈P.take 0)):=(by rw[kV];refine List.map_congr_left λi _=>by simp);rw[e]at H;exact H
  have KI:Below w.heap.size w w1:=(Below.refl w.heap.size w).grown hg (Nat.le_refl _) (λj hj=>by cases hj);clear H hg;go_wp2;go_loopw [11] (λi wr=>∃k:Nat,i= J k/\k<=P.length/\wr.ownsRow w.heap.size 4 1 (slice (some ⟨w.heap.size,0,none⟩) P.length P.length) P.length ((gC P k).flatMap sX)/\Below w.heap.size w wr) (λi _=>P.length-(intOf i).toNat);case atStart=>exact⟨0,rfl,by omega,Pn,KI⟩
  case round=>
    clear Pn KI;obtain⟨k,rfl,hk,H,O⟩:=hrel;by_cases C':k<P.length
    . obtain⟨bl,off,rfl,Lf,hc⟩:=HR.o ahy;obtain⟨p,hp⟩:=ai C';have c0:=(O.cell (p:=⟨bl,off+k*1+0,none⟩) Lf).trans (hc k p hp 0 _ rfl);simp only[Nat.add_zero,Nat.mul_one]at c0;have PS:=gJ HT.o hp;have HP:=qh hp;clear hc hp;by_cases h0:0<=p
      . have f0:=H.frozenAt p.toNat;have g0:=H.cellAt p.toNat ahy;have ad:=(H.lt _ rfl).2;have Kp:=H.stored p.toNat (bool true)
        have Y:Kq (∀W:World,W.ownsRow w.heap.size 4 1 (slice (some ⟨w.heap.size,0,none⟩) P.length P.length) P.length (((gC P k).flatMap sX).set p.toNat (bool true))->W.ownsRow w.heap.size 4 1 (slice (some ⟨w.heap.size,0,none⟩) P.length P.length) P.length ((gC P (k+1)).flatMap sX)):=qh λW hW=>by
          rw[mG]at hW ⊢
          rw[qE P.length p.toNat _ (fun(u:Nat)=>Value.bool (decide ((u:Int)∈P.take (k+1)))) (bool true) (by
            show Value.bool (decide (((p.toNat:Nat):Int)∈P.take (k+1)))=_
            rw[decide_eq_true ((iY HP.o _).2 (.inr ahy))]) (λj hj=>by
            show Value.bool (decide ((j:Int)∈P.take (k+1)))=Value.bool (decide ((j:Int)∈P.take k));congr 1;refine decide_eq_decide.2 ?_;rw[iY HP.o]
            exact⟨λh=>h.elim id (λh=>by omega),.inl⟩)]at hW
          exact hW
        obtain⟨u,hu⟩:∃u,((gC P k).flatMap sX)[p.toNat]? =some u:=by rw[mG,i8 _ _ _ ahy];exact⟨_,rfl⟩
        rw[hu]at g0;obtain⟨m,rfl⟩:=Int.eq_ofNat_of_zero_le h0;simp only[Int.toNat_natCast]at f0 g0 Kp Y;have I:=qh (And.intro Kp O);clear hu Kp O H;go_wp2;go_roundw;case rel=>exact⟨k+1,by go_num,by omega,Y.o _ I.o.1.1,I.o.2.setCell (Nat.le_refl _) _⟩
        case measure=>simp[intOf];omega
      . have Y:Kq (gC P (k+1)=gC P k):=qh (by
          unfold gC;refine List.map_congr_left λu _=>decide_eq_decide.2 ?_;rw[iY HP.o]
          exact⟨λh=>h.elim id (λh=>by omega),.inl⟩)
        have I:=qh (And.intro H O);clear H O;go_wp2;go_roundw;case rel=>exact⟨k+1,by go_num,by omega,by rw[Y.o];exact I.o.1,I.o.2⟩
        case measure=>simp[intOf];omega
    . obtain rfl:k=P.length:=by omega
      have I:=qh (And.intro H O);clear H O;go_wp2;go_ret;exact⟨_,rfl,RdL.of_own Bh (kC P _).symm (by rw[kC];omega) I.o.1,I.o.2⟩
end
section
open Go.RowKit
variable{v:Value}
def dg{b':Nat}{e:TypeId}{n:Nat}{xs:List Value}(h:w.ownsRow b e sz v n xs)(I:b'<=b):w.ownsRow b' e sz v n xs:=by
 rcases h.2 with O|⟨g,cap,H,V,Y,q⟩
 .exact⟨h.1,.inl O⟩
 .exact⟨h.1,.inr ⟨g,cap,H,V,Nat.le_trans I Y,q⟩⟩
def dP(h:w.ownsRow b 3 1 v l.length (l.flatMap encI))(H:l.length<=140737488355328):RdL w v 1 encI l:=RdL.of_own jP rfl H h
def iy(x:Int):∀u∈encI x,u.oneCell'=true:=by simp[encI,Value.oneCell']
def F6(h:k<P.length):(gC P P.length)[k]? =some (decide ((k:Int)∈P)):=by unfold gC;rw[i8 _ _ _ h,List.take_length]
def BS(H:k<P.length):dq P k=!decide ((k:Int)∈P):=by
 unfold dq;by_cases h:(k:Int)∈P;.simp[h]
 .simp[h,H]
def iR(l:List Int)(x:Int):(l++[x]).flatMap encI=l.flatMap encI++encI x:=by simp
def pe(w:World)(v:Value)(P:List Int)(h:RdL w v 1 encI P)(ht:dX P=true)(NN:P.length<=1000):E 83 #[v] w λe w'=>∃v',e= returned v'/\w'.ownsRow w.heap.size 3 1 v' (ac P).length ((ac P).flatMap encI)/\Below w.heap.size w w':=by
  refine ajC ?_;intro i0 hi Kt Kv hz2 HI;have HC:=qh (yQ w v P h ht NN);clear hi Kt Kv hz2 h ht;go_enter func83,ntmps83;go_wp2_with fail;refine HC.o.mono ?_;rintro en w1 ⟨v',rfl,hR,I⟩;have HB:=qh I;have Kl:=I.size;clear I;obtain⟨A,cap,rfl,l1,l2,V⟩:=hR;have HR:=qh V;clear V;have WP:(gC P P.length).length=P.length:=kC _ _;rw[WP]at *;clear WP;go_wp2;go_loopw [3,9] (λo i wr=>∃k:Nat,i= J k/\k<=P.length/\wr.ownsRow w1.heap.size 3 1 o (am P k).length ((am P k).flatMap encI)/\Below w1.heap.size w1 wr) (λ_ i _=>P.length-(intOf i).toNat);case atStart=>exact⟨0,rfl,by omega,World.ownsRow_nil _ _ _ _,Below.refl _ _⟩
  case round=>
    obtain⟨k,rfl,hk,O,Y⟩:=hrel;by_cases C':k<P.length
    . obtain⟨bl,off,rfl,Lf,hc⟩:=HR.o (by rw[kC];omega);have c0:=(Y.cell (p:=⟨bl,off+k*1+0,none⟩) Lf).trans (hc k _ (F6 C') 0 _ rfl);simp only[Nat.add_zero,Nat.mul_one]at c0;have LC:=a8 P k;have KR:=Y.size;have HS:=qh (cJ P k);have HL:=qh (BS C');have H:=qh (And.intro O Y);obtain⟨A9,c9,rfl⟩:=bC O;clear hc Y;cases hm:decide ((k:Int)∈P)
      . rw[hm]at c0;have HM:=qh hm;clear hm;go_wp2_with (at_builtin;refine wpList_append_own _ rfl _ _ 22 rfl w1.heap.size 3 i0 (J 0) 1 8 Tryz.underlying22 HI.o.1 HI.o.2.1 HI.o.2.2.1 HI.o.2.2.2 rfl ahA _ _ _ rfl (O.alloc _) ⟨wr.heap.size,0,none⟩ 1 1 (encI k) rfl rfl (cell_one_new _ _ _) (iy _) ?c3 ?c4 ?c5 ?_);case c3=>unfold maxLen;omega
        case c4=>omega
        case c5=>simp;omega
        intro v' w' NE NB PQ;have HN:=qh (And.intro NE NB);clear NE NB PQ O;go_wp2;go_roundw;case rel=>exact⟨k+1,by go_num,by omega,by rw[HS.o,HL.o,HM.o];simp only[Bool.not_false,if_true];rw[iR,List.length_append];exact HN.o.1,(H.o.2.alloc KR _).grown HN.o.2 ahD (λj hj=>(H.o.1.lt j hj).1)⟩
        case measure=>simp[intOf];omega
      . rw[hm]at c0;have HM:=qh hm;clear hm O;go_wp2;go_roundw;case rel=>exact⟨k+1,by go_num,by omega,by rw[HS.o,HL.o,HM.o];exact H.o.1,H.o.2⟩
        case measure=>simp[intOf];omega
    . obtain rfl:k=P.length:=by omega
      have LC:=a8 P P.length;have H:=qh (And.intro O Y);clear O Y;go_wp2;go_ret;exact⟨_,rfl,dg H.o.1 Kl,HB.o.trans (H.o.2.mono Kl)⟩
def hJ(P:List Int)(k:Nat):List Int:=(List.range P.length).map fun(u:Nat)=>if u<k then((depL P u:Nat):Int)else 0
def p5(P:List Int):List Int:=(List.range P.length).map fun(u:Nat)=>((depL P u:Nat):Int)
def yW(P:List Int)(k:Nat):(hJ P k).length=P.length:=by simp[hJ]
def yU(P:List Int):hJ P P.length=p5 P:=by unfold hJ p5;exact List.map_congr_left λu h=>if_pos (List.mem_range.1 h)
def iQ(l:List Int):l.flatMap encI=l.map (Value.int .i64):=(tV _ _).symm
def qx(P:List Int)(k:Nat)(x:Int)(H:x=((depL P k:Nat):Int)):((hJ P k).flatMap encI).set k (J x)=(hJ P (k+1)).flatMap encI:=by
 rw[iQ,iQ];unfold hJ;rw[List.map_map,List.map_map];refine qE P.length k _ _ _ ?_ λj I=>?_;.show Value.int .i64 (if k<k+1 then _ else _)=_;rw[if_pos ahy,H]
 .show Value.int .i64 (if j<k+1 then _ else _)=Value.int .i64 (if j<k then _ else _);by_cases h:j<k;.rw[if_pos h,if_pos ahy]
  .rw[if_neg h,if_neg ahy]
def yV(P:List Int)(k m:Nat)(hm:m<k)(h:k<=P.length):((hJ P k).flatMap encI)[m]? =some (J ((depL P m:Nat):Int)):=by rw[iQ];unfold hJ;rw[List.map_map,i8 _ _ _ ahy];show some (Value.int .i64 (if m<k then _ else _))=_;rw[if_pos hm]
def vz(w:World)(v:Value)(P:List Int)(h:RdL w v 1 encI P)(ht:dX P=true)(NN:P.length<=1000):E 84 #[v] w λe w'=>∃v',e= returned v'/\w'.ownsRow w.heap.size 3 1 v' (p5 P).length ((p5 P).flatMap encI)/\Below w.heap.size w w':=by
  obtain⟨i0,hi,Kt,Kv,ab⟩:=info_parts Tryz.infoIn;obtain⟨A,cap,rfl,l1,l2,V⟩:=h;have HR:=qh V;have HT:=qh ht;clear V ht;go_enter func84,ntmps84;go_wp2_with (refine wpList_make_full _ rfl (.tmp 7) (.tmp 7) 22 rfl w.heap.size 3 i0 (J 0) 1 Tryz.underlying22 hi Kt Kv .i64 .i64 P.length P.length P.length rfl rfl rfl rfl ?b2 ?b3 (Nat.le_refl _) ?_);case b2=>rw[ab];omega
  case b3=>unfold maxLen;omega
  intro w1 H hg;have Pn:w1.ownsRow w.heap.size 3 1 (slice (some ⟨w.heap.size,0,none⟩) P.length P.length) P.length ((hJ P 0).flatMap encI):=by have e:(madeCells #[Value.int .i64 0] P.length).toList=(hJ P 0).flatMap encI:=(by rw[kV,iQ];unfold hJ;rw[List.map_map];exact List.map_congr_left λi _=>rfl);rw[e]at H;exact H
  have KI:Below w.heap.size w w1:=(Below.refl w.heap.size w).grown hg (Nat.le_refl _) (λj hj=>by cases hj);clear H hg hi Kt Kv ab;go_wp2;go_loopw [11] (λi wr=>∃k:Nat,i= J k/\k<=P.length/\wr.ownsRow w.heap.size 3 1 (slice (some ⟨w.heap.size,0,none⟩) P.length P.length) P.length ((hJ P k).flatMap encI)/\Below w.heap.size w wr) (λi _=>P.length-(intOf i).toNat);case atStart=>exact⟨0,rfl,by omega,Pn,KI⟩
  case round=>
    clear Pn KI;obtain⟨k,rfl,hk,H,O⟩:=hrel;by_cases C':k<P.length
    . obtain⟨bl,off,rfl,Lf,hc⟩:=HR.o ahy;obtain⟨p,hp⟩:=ai C';have c0:=(O.cell (p:=⟨bl,off+k*1+0,none⟩) Lf).trans (hc k p hp 0 _ rfl);simp only[Nat.add_zero,Nat.mul_one]at c0;have PS:=gJ HT.o hp;have Y:=iM HT.o hp;have ad:=DH P p;have HP:=qh hp;clear hc hp;have f0:=H.frozenAt k;have g0:=H.cellAt k ahy;have al:=(H.lt _ rfl).2;obtain⟨u,hu⟩:∃u,((hJ P k).flatMap encI)[k]? =some u:=by rw[iQ];unfold hJ;rw[List.map_map,i8 _ _ _ ahy];exact⟨_,rfl⟩
      rw[hu]at g0;clear hu;have ax:bl≠w.heap.size:=(by omega);by_cases h0:0<=p
      . rw[if_pos h0]at Y;obtain⟨m,rfl⟩:=Int.eq_ofNat_of_zero_le h0;have g1:=H.cellAt m ahy;rw[yV P k m ahy hk]at g1;have Kp:=(H.stored k (J 1)).1.stored k (J (((depL P m:Nat):Int)+1));have HN:=qh (qx P k (((depL P m:Nat):Int)+1) (by rw[Y];omega));have I:=qh (And.intro Kp O);clear Kp O H Y;go_wp2;go_roundw;case rel=>exact⟨k+1,by go_num,by omega,by have:=I.o.1.1;rw[List.set_set,HN.o]at this;exact this,(I.o.2.setCell (Nat.le_refl _) _).setCell (Nat.le_refl _) _⟩
        case measure=>simp[intOf];omega
      . rw[if_neg h0]at Y;have Kp:=H.stored k (J 1);have HN:=qh (qx P k 1 (by rw[Y];rfl));have I:=qh (And.intro Kp O);clear Kp O H Y;go_wp2;go_roundw;case rel=>exact⟨k+1,by go_num,by omega,by have:=I.o.1.1;rw[HN.o]at this;exact this,I.o.2.setCell (Nat.le_refl _) _⟩
        case measure=>simp[intOf];omega
    . obtain rfl:k=P.length:=by omega
      have I:=qh (And.intro H O);clear H O;go_wp2;go_ret;exact⟨_,rfl,by rw[<-yU,yW];exact I.o.1,I.o.2⟩
end
section
open Go.RowKit
variable{v:Int}
def evL(P:List Int)(l:List Int):Bool:=l.all λv=>decide (depL P v=depL P (l.headD 0)/\depL P v<=5)
def sZ(P:List Int):kJ P=evL P (ac P):=rfl
def sY(P:List Int)(l:List Int)(x:Int):evL P (l++[x])=(evL P l&&decide (depL P x=depL P ((l++[x]).headD 0)/\depL P x<=5)):=by
 unfold evL;rw[List.all_append];cases l with
 |nil=>simp
 |cons a l=>simp
theorem vj(P:List Int)(l m:List Int)(h:evL P (l++m)=true):evL P l=true:=by
 unfold evL at *;rw[List.all_append,Bool.and_eq_true]at h;cases l with
 |nil=>rfl
 |cons a l=>exact h.1
def xw{m:List Int}(h:evL P l=false):evL P (l++m)=false:=by
 cases H:evL P (l++m);.rfl
 .rw[vj P l m H]at h;cases h
def jD(P:List Int)(k:Nat):∀m,∃r,am P (k+m)=am P k++r
 |0=>⟨[],by simp⟩
 |m+1=>by
  obtain⟨r,V⟩:=jD P k m;rw[<-Nat.add_assoc,cJ];split;.exact⟨r++[((k+m:Nat):Int)],by rw[V,List.append_assoc]⟩
  .exact⟨r,V⟩
def p4(P:List Int)(h:k<=P.length):∃r,ac P=am P k++r:=by obtain⟨r,V⟩:=jD P k (P.length-k);exact⟨r,by rw[<-V];unfold ac;congr 1;omega⟩
def Bk(h:k<=P.length)(I:evL P (am P k)=false):kJ P=false:=by obtain⟨r,V⟩:=p4 P h;rw[sZ,V];exact xw I
def oK(h:k<P.length):1<=depL P k:=by unfold depL;obtain⟨n,H⟩:∃n,P.length=n+1:=⟨P.length-1,by omega⟩;rw[H];unfold dep;rw[if_pos ahy];omega
def first(P:List Int)(k:Nat):Nat:=if am P k=[]then 0 else depL P ((am P k).headD 0)
def vl(h:dq P k=false):first P (k+1)=first P k:=by unfold first;rw[cJ,h];rfl
def ju(h:dq P v=true):0<=v/\v<P.length/\v∉P:=by simpa[dq]using h
def gG(h:v∈am P k):dq P v=true/\0<=v/\v<k:=by unfold am at h;rw[List.mem_filter,List.mem_map]at h;obtain⟨⟨a,I,rfl⟩,H⟩:=h;have:=List.mem_range.1 I;exact⟨H,by show(0:Int)<=(a:Int);omega,by show((a:Nat):Int)<k;omega⟩
def yN(I:k<=P.length)(h:am P k≠[]):1<=first P k:=by
 unfold first
 rw[if_neg h];cases H:am P k with
 |nil=>exact absurd H h
 |cons a l=>have:=(gG (P:=P) (k:=k) (v:=a) (by rw[H];simp)).2;obtain⟨n,rfl⟩:=Int.eq_ofNat_of_zero_le this.1;show 1<=depL P (n:Int);exact oK ahy
def vm(V:k<P.length)(h:dq P k=true):first P (k+1)=(if first P k=0 then depL P k else first P k)/\
    evL P (am P (k+1))=(evL P (am P k)&&decide (depL P k=first P (k+1)/\depL P k<=5)):=by
  have e:am P (k+1)=am P k++[(k:Int)]:=by rw[cJ,if_pos h]
  have I:first P (k+1)=depL P ((am P k++[(k:Int)]).headD 0):=by unfold first;rw[e,if_neg ahz]
  refine⟨?_,by rw[e,sY,I]⟩;by_cases H:am P k=[];. have:first P k=0:=(by unfold first;rw[if_pos H]);rw[if_pos this,I,H];rfl
  . have:=yN ahy H;rw[if_neg ahy,I];unfold first
    rw[if_neg H];cases O:am P k with
    | nil=>exact absurd O H
    | cons a l=>rfl
def E0(P T:List Int):T.any (λx=>!decide (x∈ac P))=!thrB P T:=by
 unfold thrB;rw[List.not_all_eq_any_not];congr 1;funext x;congr 1;cases h:dq P x;.exact decide_eq_false λhm=>by rw[fO.1 hm]at h;cases h
 .exact decide_eq_true (fO.2 h)
def aR(h:a5 P T=0):jW P T=false/\dX P=true/\kJ P=true/\thrB P T=true:=by
 unfold a5 at h;cases h1:jW P T
 .cases H:dX P;.rw[h1,H]at h;simp at h
  .cases I:kJ P;.rw[h1,H,I]at h;simp at h
   .cases O:thrB P T;.rw[h1,H,I,O]at h;simp at h
    .exact⟨rfl,rfl,rfl,rfl⟩
 .rw[h1]at h;simp at h
def bj(h:jW P T=false):1<=P.length/\P.length<=32/\1<=T.length/\T.length<=32:=by simp only[jW,decide_eq_false_iff_not]at h;omega
def jA(h:thrB P T=true)(hi:T[i]? =some x):x∈ac P:=by unfold thrB at h;rw[List.all_eq_true]at h;exact fO.2 (h x (List.mem_of_getElem? hi))
def jq(P T:List Int):Int:=if a5 P T=0 then((depL P ((ac P).headD 0):Nat):Int)else 0
def DI(h:a5 P T=0)(O:v∈ac P):((depL P v:Nat):Int)=jq P T:=by obtain⟨_,_,H,_⟩:=aR h;unfold jq;rw[if_pos h];unfold kJ at H;rw[List.all_eq_true]at H;have:=H v O;simp only[decide_eq_true_eq]at this;rw[this.1]
def tH(P T:List Int):List Int:=if a5 P T=0 then ac P else[]
end
section
open Go.RowKit
variable{n base:Nat}{v:Value}{e:TypeId}{xs:List Value}
def cj{α:Type}{enc:α->List Value}{l:List α}(h:RdL w v sz enc l):∃A c,v= .slice A l.length c/\l.length<=c/\l.length<=140737488355328:=by obtain⟨A,c,h1,H,I,_⟩:=h;exact⟨A,c,h1,H,I⟩
def fZ{A:Option Addr}{c:Nat}(h:RdL w (.slice A n c) 1 encI l)(O:0<l.length):∃b off,A=some ⟨b,off,none⟩/\b<w.heap.size/\∀i x,l[i]? =some x->Z w b (off+i) (J x):=by obtain⟨A',c',e,h1,h2,I⟩:=h;injection e with H e2 e3;subst H;obtain⟨b,off,Y,q2,q3⟩:=I O;refine⟨b,off,Y,q2,λi x V=>?_⟩;have:=q3 i x V 0 _ rfl;simpa using this
def gj(h:jW P T=true):a5 P T=8:=by unfold a5;rw[if_pos h]
def ln(h:jW P T=false)(H:dX P=false):a5 P T=9:=by unfold a5;rw[h,H];rfl
def ov(h:jW P T=false)(H:dX P=true)(I:kJ P=false):a5 P T=9:=by unfold a5;rw[h,H,I];rfl
def xp(h:jW P T=false)(H:dX P=true)(I:kJ P=true):a5 P T=if thrB P T then 0 else 4:=by unfold a5;rw[h,H,I];cases thrB P T<;>rfl
def xF{v:Int}(H:0<=v)(h:v<P.length):(p5 P)[v.toNat]? =some ((depL P v:Nat):Int):=by unfold p5;rw[i8 _ _ _ ahy];congr 3;omega
def i7(h:w.ownsRow base e sz v n xs)(k:Below w.heap.size w w'):w'.ownsRow base e sz v n xs:=
 aa.own h (aa.of_below (S:=[]) k) (λ_ _=>by simp)
def nQ(h:w.ownsRow base e sz v n xs)(g:Nat)(u:Value)(hg:∀b,v.ownBlock=some b->b≠g):(w.setCell ⟨g,0,none⟩ u).ownsRow base e sz v n xs:=
 aa.own h (aa.setCell (aa.refl [g] w) (.inl ahz) u) (λb I=>by simpa using hg b I)
def sD{W w1:World}(I:Below W.heap.size W w1):(∀b o,b<W.heap.size->w1.cell? ⟨b,o,none⟩=W.cell? ⟨b,o,none⟩)/\(∀b o,b<W.heap.size->w1.frozen? ⟨b,o,none⟩=W.frozen? ⟨b,o,none⟩):=
 ⟨λb o h=>I.cell (p:=⟨b,o,none⟩) h,λb o h=>I.frozen (p:=⟨b,o,none⟩) h⟩
theorem kA(w:World)(vP vT:Value)(P T:List Int)(hP:RdL w vP 1 encI P)(hT:RdL w vT 1 encI T):E 42 #[agg #[vP,vT]] w λe w'=>e= returned (J (a5 P T))/\Below w.heap.size w w':=by
  have HP:=qh hP;have HT:=qh hT;obtain⟨AP,cP,rfl,S7,S8⟩:=cj hP;obtain⟨AT,cT,rfl,QA,QB⟩:=cj hT;clear hP hT;have Kn:Below w.heap.size w (w.alloc (cells #[.slice AP P.length cP,.slice AT T.length cT] 24)):=(Below.refl _ _).alloc (Nat.le_refl _) _;have KZ:=qh Kn;clear Kn;go_enter func42,ntmps42;go_upto_region 1 with fail;go_quiet (fail);have c0:((w.alloc (cells #[.slice AP P.length cP,.slice AT T.length cT] 24)).drewN nq).cell? w.heap.size=some (.slice AP P.length cP):=by simp[World.cell?_alloc_new]
  have c1:((w.alloc (cells #[.slice AP P.length cP,.slice AT T.length cT] 24)).drewN nq).cell? ⟨w.heap.size,1,none⟩=some (.slice AT T.length cT):=by simp[World.cell?_alloc_new]
  have KR:w.heap.size+1<=((w.alloc (cells #[.slice AP P.length cP,.slice AT T.length cT] 24)).drewN nq).heap.size:=by simp[World.drewN]
  have Nw:=bO KZ.o nq;clear KZ;generalize ((w.alloc (cells #[.slice AP P.length cP,.slice AT T.length cT] 24)).drewN nq)=wb at *;have HB:=qh Nw;have HC:=qh (And.intro c0 c1);have Oc:=qh (HP.o.below Nw (Nat.le_refl _));have Sh:=qh (HT.o.below Nw (Nat.le_refl _));clear Nw HP HT;by_cases a1:P.length<1;. have HE:=qh (gj (P:=P) (T:=T) (decide_eq_true (.inl a1)));go_wp2;go_ret;exact⟨aU HE.o.symm,HB.o⟩
  by_cases a2:32<P.length;. have HE:=qh (gj (P:=P) (T:=T) (decide_eq_true (.inr (.inl a2))));go_wp2;go_ret;exact⟨aU HE.o.symm,HB.o⟩
  by_cases a3:T.length<1;. have HE:=qh (gj (P:=P) (T:=T) (decide_eq_true (.inr (.inr (.inl a3)))));go_wp2;go_ret;exact⟨aU HE.o.symm,HB.o⟩
  by_cases a4:32<T.length;. have HE:=qh (gj (P:=P) (T:=T) (decide_eq_true (.inr (.inr (.inr a4)))));go_wp2;go_ret;exact⟨aU HE.o.symm,HB.o⟩
  have HM:=qh (show jW P T=false from decide_eq_false ahy);cases OQ:dX P;. have HE:=qh (ln HM.o OQ);have HQ:=qh (uF wb _ P Oc.o);rw[OQ]at HQ;clear OQ;go_wp2_with (go_at_call 82;refine HQ.o.mono ?_;rintro e w' ⟨rfl,rfl⟩);go_ret;exact⟨aU HE.o.symm,HB.o⟩
  have HQ:=qh (uF wb _ P Oc.o);rw[OQ]at HQ;have OZ:=qh OQ;clear OQ;have bd:Below wb.heap.size wb wb.drew:=(Below.refl _ _).drew;go_upto_region 4 with fail;go_wp2_with (go_at_call 82;refine HQ.o.mono ?_;rintro e w' ⟨rfl,rfl⟩);go_cut [5,6] (λs5 s6 wx=>∃g v5,s5= pointer (some ⟨g,0,none⟩)/\wb.heap.size<=g/\Z wx g 0 v5/\wx.ownsRow wb.heap.size 3 1 v5 (ac P).length ((ac P).flatMap encI)/\wx.ownsRow wb.heap.size 3 1 s6 (p5 P).length ((p5 P).flatMap encI)/\Below wb.heap.size wb wx)
  case first=>
    go_region_held3 (λW=>W.cell? w.heap.size=some (.slice AP P.length cP))
      (first|exact c0|exact(bd.cell (p:=w.heap.size) (show w.heap.size<wb.heap.size by omega)).trans c0|exact(k3.cell (p:=w.heap.size) (show w.heap.size<wb.heap.size by omega)).trans c0|exact(k2.cell (p:=w.heap.size) (show w.heap.size<wb.heap.size by omega)).trans c0|exact((k2.alloc k2.size _).cell (p:=w.heap.size) (show w.heap.size<wb.heap.size by omega)).trans c0|exact(((Below.refl wb.heap.size wb).alloc (Nat.le_refl _) _).cell (p:=w.heap.size) (show w.heap.size<wb.heap.size by omega)).trans c0|exact((((Below.refl wb.heap.size wb).alloc (Nat.le_refl _) _).drew).cell (p:=w.heap.size) (show w.heap.size<wb.heap.size by omega)).trans c0|exact((k3.setCell (by first|exact k2.size|exact Nat.le_refl _) _).cell (p:=w.heap.size) (show w.heap.size<wb.heap.size by omega)).trans c0|exact((k3.alloc k3.size _).cell (p:=w.heap.size) (show w.heap.size<wb.heap.size by omega)).trans c0|(simp[*];done))
      (first
        | (go_at_call 83;go_loud (refine(pe _ _ P (Oc.o.below (B:=wb.heap.size) (by first|exact bd|exact bd.alloc (Nat.le_refl _) _) (Nat.le_refl _)) OZ.o ahy).mono ?_);rintro e w2 ⟨v2,rfl,o2,b2⟩;obtain⟨Y,c2,rfl⟩:=bC o2;(have k2:Below wb.heap.size wb w2:=(by first|exact bd.trans (b2.mono ahz)|exact(bd.alloc (Nat.le_refl _) _).trans (b2.mono ahz)));have LZ:=(sD b2).1;have bw:=(sD b2).2;have O2:=qh o2;(first|have ab:wb.heap.size<w2.heap.size:=(by have:=b2.size;simp at this;omega)|have ab:=k2.size))
        | (go_at_call 84;go_loud (refine(vz _ _ P (Oc.o.below (B:=wb.heap.size) (by first|exact k2|exact k2.alloc k2.size _|exact k2.setCell ahz _|exact(k2.alloc k2.size _).setCell ahz _) (Nat.le_refl _)) OZ.o ahy).mono ?_);rintro e w3 ⟨v3,rfl,o3,b3⟩;have Wt:=(sD b3).1;have bA:=(sD b3).2;have O3:=qh o3;(have k3:Below wb.heap.size wb w3:=(by first|exact k2.trans (b3.mono k2.size)|exact(k2.alloc k2.size _).trans (b3.mono (by simp;have:=k2.size;omega))))))
    . have Lc:=b3.size;have O:=dg ((i7 O2.o b3).alloc (cells #[.slice Y (ac P).length c2] 22)) (b':=wb.heap.size) ahz;have e3:=dg (O3.o.alloc (cells #[.slice Y (ac P).length c2] 22)) (b':=wb.heap.size) k2.size;have e4:=(k2.trans (b3.mono k2.size)).alloc (Nat.le_trans k2.size b3.size) (cells #[.slice Y (ac P).length c2] 22);have H:=qh (And.intro O (And.intro e3 e4));clear O e3 e4;go_wp2_with fail;go_meet;case rel=>exact⟨_,_,rfl,Nat.le_trans k2.size Lc,by simp[World.cell?_alloc_new],H.o.1,H.o.2.1,H.o.2.2⟩
    . have Lc:=b3.size;have O:=dg (nQ (i7 (O2.o.alloc (cells #[.slice none 0 0] 22)) b3) w2.heap.size (.slice Y (ac P).length c2) (λb I=>by have:=(O2.o.lt b I).2;omega)) (b':=wb.heap.size) ahz;have e3:=dg (nQ O3.o w2.heap.size (.slice Y (ac P).length c2) (λb I=>by have:=(O3.o.lt b I).1;simp at this;omega)) (b':=wb.heap.size) (by simp;have:=k2.size;omega);have e4:=((k2.alloc k2.size (cells #[.slice none 0 0] 22)).trans (b3.mono (by simp;have:=k2.size;omega))).setCell (p:=w2.heap.size) k2.size (.slice Y (ac P).length c2);have H:=qh (And.intro O (And.intro e3 e4));clear O e3 e4;go_wp2_with fail;go_meet;case rel=>exact⟨_,_,rfl,k2.size,World.cell?_setCell_same (u:= .slice none 0 0) _ _ _ (by rw[Wt _ _ ahz];simp[World.cell?_alloc_new]),H.o.1,H.o.2.1,H.o.2.2⟩
    . have Lc:=b3.size;have O:=dg (nQ (i7 O2.o b3) wb.heap.size (.slice Y (ac P).length c2) (λb I=>by have:=(O2.o.lt b I).1;simp at this;omega)) (b':=wb.heap.size) ahz;have e3:=dg (nQ O3.o wb.heap.size (.slice Y (ac P).length c2) (λb I=>by have:=(O3.o.lt b I).1;omega)) (b':=wb.heap.size) k2.size;have e4:=(k2.trans (b3.mono k2.size)).setCell (p:=wb.heap.size) (Nat.le_refl _) (.slice Y (ac P).length c2);have H:=qh (And.intro O (And.intro e3 e4));clear O e3 e4;go_wp2_with fail;go_meet;case rel=>exact⟨_,_,rfl,Nat.le_refl _,World.cell?_setCell_same (u:= .slice none 0 0) _ _ _ (by rw[Wt _ _ ahy,LZ _ _ ahz];simp[World.cell?_alloc_new]),H.o.1,H.o.2.1,H.o.2.2⟩
  case rest=>
    clear Oc HQ bd c0 c1;obtain⟨g,v5,rfl,hg,MT,o5,o6,bc⟩:=hcut;have LC:=a8 P P.length;have Oo:(ac P).length<=32:=(by show(am P P.length).length<=_;omega);have Rv:(p5 P).length=P.length:=(by simp[p5]);have R5:=dP o5 ahy;have R6:=dP o6 ahy;have TB:=qh R5;obtain⟨A5,c5,rfl,k5,_⟩:=cj R5;obtain⟨A6,c6,rfl,k6,_⟩:=cj R6;have f0:=(bc.cell (p:=w.heap.size) (show w.heap.size<wb.heap.size by omega)).trans HC.o.1;have f1:=(bc.cell (p:=⟨w.heap.size,1,none⟩) (show w.heap.size<wb.heap.size by omega)).trans HC.o.2;have Yy:=qh (Sh.o.below bc (Nat.le_refl _));have R8:=qh (HB.o.trans (bc.mono HB.o.size));have Tg:=qh (And.intro R5 R6);clear R5 R6 o5 o6 bc Sh HB HC;go_wp2;go_loopw [41] (λi wr=>∃j m:Nat,i= J j/\j<=(ac P).length/\evL P ((ac P).take j)=true/\wr=wc.drewN m) (λi _=>(ac P).length-(intOf i).toNat);case atStart=>exact⟨0,0,rfl,by omega,rfl,rfl⟩
    case round=>
      obtain⟨j,mm,rfl,hj,Mc,rfl⟩:=hrel;by_cases NC:j<(ac P).length
      . obtain⟨b5,ax,Y3,NQ,Uj⟩:=fZ Tg.o.1 ahy;obtain⟨b6,ba,Y4,Qc,Uk⟩:=fZ Tg.o.2 (by rw[Rv];omega);subst Y3 Y4;obtain⟨x,hx⟩:=ai NC;obtain⟨y,hy⟩:=ai (show 0<(ac P).length by omega);have M0:=gG (P:=P) (k:=P.length) (List.mem_of_getElem? hx);have Qz:=gG (P:=P) (k:=P.length) (List.mem_of_getElem? hy);obtain⟨x,rfl⟩:=Int.eq_ofNat_of_zero_le M0.2.1;obtain⟨y,rfl⟩:=Int.eq_ofNat_of_zero_le Qz.2.1;have q1:=Uj j _ hx;have q2:=Uj 0 _ hy;have q3:=Uk x _ (by have:=xF (P:=P) M0.2.1 M0.2.2;simpa using this);have q4:=Uk y _ (by have:=xF (P:=P) Qz.2.1 Qz.2.2;simpa using this);simp only[Nat.add_zero]at q2;have ad:x<P.length:=(by have:=M0.2.2;omega);have al:y<P.length:=(by have:=Qz.2.2;omega);have UR:(ac P).take (j+1)=(ac P).take j++[(x:Int)]:=a9 hx
        have WG:((ac P).take j++[(x:Int)]).headD 0=(y:Int):=by
          rw[<-UR];cases hl:ac P with
          | nil=>rw[hl]at hy;cases hy
          | cons a l=>rw[hl]at hy;simp at hy;simp[hy]
        have Uq:=sY P ((ac P).take j) x;rw[Mc,Bool.true_and,WG,<-UR]at Uq;obtain⟨d,hd⟩:∃d:Int,d=((depL P x:Nat):Int):=⟨_,rfl⟩;obtain⟨d0,M'⟩:∃d:Int,d=((depL P y:Nat):Int):=⟨_,rfl⟩;rw[<-hd]at q3;rw[<-M']at q4;have HV:=qh (And.intro Uq (And.intro hd M'));have Qd:evL P ((ac P).take (j+1))=false->kJ P=false:=λh=>by have:=xw (m:=(ac P).drop (j+1)) h;rwa [List.take_append_drop]at this
        have Py:=qh Qd;clear hx hy M0 Qz UR WG Uq hd M' Mc Uj Uk Qd;cases e1:(d !=d0)
        . cases O:decide (5<d)
          . have V:=qh (show evL P ((ac P).take (j+1))=true from by
              rw[HV.o.1];have:=HV.o.2;simp only[bne_eq_false_iff_eq,decide_eq_false_iff_not]at e1 O
              exact decide_eq_true ahy)
            go_wp2_with fail;go_quiet (fail);go_wp2;go_roundw;case rel=>exact⟨j+1,_,by go_num,by omega,V.o,rfl⟩
            case measure=>simp[intOf];omega
          . have V:=qh (ov (T:=T) HM.o OZ.o (Py.o (by
              rw[HV.o.1];have:=HV.o.2;simp only[decide_eq_true_eq]at O
              exact decide_eq_false ahy)))
            go_wp2_with fail;go_quiet (fail);go_wp2;go_ret;exact⟨aU V.o.symm,bO (bO R8.o _) _⟩
        . have V:=qh (ov (T:=T) HM.o OZ.o (Py.o (by
            rw[HV.o.1];have:=HV.o.2;simp only[bne_iff_ne]at e1
            exact decide_eq_false ahy)))
          go_wp2_with fail;go_quiet (fail);go_wp2;go_ret;exact⟨aU V.o.symm,bO (bO R8.o _) _⟩
      . obtain rfl:j=(ac P).length:=by omega
        rw[List.take_length,<-sZ]at Mc;have V:=qh (xp (T:=T) HM.o OZ.o Mc);have NR:=mD (wc.drewN mm) g _ _ (ac P) T (show(wc.drewN mm).cell? ⟨g,0,none⟩=_ from MT) (Tg.o.1.drewN mm) (Yy.o.drewN mm);rw[E0]at NR;clear Mc;cases Qq:thrB P T;. rw[Qq]at NR V;have HC:=qh NR;clear NR Qq;go_wp2_with (go_at_call 85;refine HC.o.mono ?_;rintro e w' ⟨rfl,rfl⟩);go_ret;exact⟨aU V.o.symm,bO R8.o _⟩
        . rw[Qq]at NR V;have HC:=qh NR;clear NR Qq;go_wp2_with (go_at_call 85;refine HC.o.mono ?_;rintro e w' ⟨rfl,rfl⟩);go_ret;exact⟨aU V.o.symm,bO R8.o _⟩
def uE(w:World)(h H:Value)(P T:List Int)(Y:RdL w h 1 encI P)(hT:RdL w H 1 encI T):E 185 #[agg #[h,H]] w λe w'=>∃v,e= returned v/\w'.ownsRow w.heap.size 3 1 v (tH P T).length ((tH P T).flatMap encI)/\Below w.heap.size w w':=by
  have Kn:Below w.heap.size w (w.alloc (cells #[h,H] 24)):=(Below.refl _ _).alloc (Nat.le_refl _) _;have I:=qh (kA (w.alloc (cells #[h,H] 24)) h H P T (Y.alloc _) (hT.alloc _));have HP:=qh Y;have O:=qh Kn;obtain⟨AP,cP,rfl,S7,S8⟩:=cj Y;obtain⟨AT,cT,rfl,QA,QB⟩:=cj hT;clear Y hT Kn;go_enter func185,ntmps185;by_cases hc:a5 P T=0;. have HL:=qh (show tH P T=ac P from by unfold tH;rw[if_pos hc]);obtain⟨hm,ht,_,_⟩:=aR hc;have KY:=bj hm;have HT:=qh ht;rw[hc]at I;clear hc hm ht;go_wp2_with fail;refine ST I.o λw1 b1=>?_;have LJ:=(sD b1).1;have Kl:=b1.size;simp at Kl;have V:=qh (O.o.trans (b1.mono O.o.size));clear b1;go_wp2_with fail;refine(pe _ _ P (HP.o.below V.o (Nat.le_refl _)) HT.o ahy).mono ?_;rintro en w2 ⟨v2,rfl,o2,b2⟩;have HO:=qh (And.intro o2 b2);clear o2 b2;go_wp2;go_ret;exact⟨_,rfl,by rw[HL.o];exact dg HO.o.1 ahy,V.o.trans (HO.o.2.mono ahy)⟩
  . have HL:=qh (show tH P T=[]from by unfold tH;rw[if_neg hc]);obtain⟨z,hz⟩:=LE (a5 P T);rw[<-hz]at I hc;have Kt:(z !=0)=true:=(by simpa using hc);clear hc hz;go_wp2_with fail;refine Pi I.o λw1 b1=>?_;have V:=qh (O.o.trans (b1.o.mono O.o.size));go_wp2;go_ret;exact⟨_,rfl,by rw[HL.o];exact World.ownsRow_nil _ _ _ _,V.o⟩
end
section
open Go.RowKit
variable{f:Nat}{v:Int}
def D6(w:World)(v:Value)(l:List Int)(x:Int)(h:RdL w v 1 encI l):E 134 #[v,J x] w λe w'=>e= returned (bool (decide (x∈l)))/\w=w':=by
  obtain⟨A,cap,rfl,l1,l2,V⟩:=h;have HR:=qh V;clear V;go_enter func134,ntmps134;go_wp2;go_loop [5] (λi=>∃k:Nat,i= J k/\k<=l.length/\x∉l.take k) (λi=>l.length-(intOf i).toNat);case atStart=>exact⟨0,rfl,by omega,by simp⟩
  case round=>
    obtain⟨k,rfl,hk,H⟩:=hrel;by_cases C':k<l.length
    . obtain⟨bl,off,rfl,Lf,hc⟩:=HR.o ahy;obtain⟨y,Y⟩:=ai C';have c0:=hc k y Y 0 _ rfl;simp only[Nat.add_zero,Nat.mul_one]at c0;have I:=qh (And.intro Y H);clear hc Y H;cases O:(y==x)
      . have ab:Kq (x∉l.take (k+1)):=qh (by
          rw[iY I.o.1];rintro(h|h);. exact I.o.2 h
          . rw[h]at O;simp at O)
        go_wp2;go_round;case rel=>exact⟨k+1,by go_num,by omega,ab.o⟩
        case measure=>simp[intOf];omega
      . have hid:Kq (x∈l):=qh (by rw[<-beq_iff_eq.1 O];exact List.mem_of_getElem? I.o.1);go_wp2;go_ret;exact⟨az (decide_eq_true hid.o).symm,rfl⟩
    . obtain rfl:k=l.length:=by omega
      rw[List.take_length]at H;have hid:Kq (x∉l):=qh H;clear H;go_wp2;go_ret;exact⟨az (decide_eq_false hid.o).symm,rfl⟩
def qF(w:World)(v:Value)(P:List Int)(x:Int)(h:RdL w v 1 encI P):E 101 #[v,J x] w λe w'=>e= returned (bool (dq P x))/\w=w':=by
  have Y:=qh (D6 w v P x h);obtain⟨A,cap,rfl,l1,l2,V⟩:=h;clear V
  have H:=qh (show dq P x=(decide (0<=x)&&decide (x<P.length)&&!decide (x∈P))from by
    unfold dq
    by_cases h1:0<=x<;>by_cases I:x<P.length<;>by_cases O:x∈P<;>simp[h1,I,O])
  go_enter func101,ntmps101;cases h1:decide (0<=x);. rw[h1]at H;have VZ:¬0<=x:=of_decide_eq_false h1;go_wp2;go_ret;exact⟨az H.o.symm,rfl⟩
  . cases I:decide (x<P.length);. rw[h1,I]at H;have VZ:0<=x:=of_decide_eq_true h1;have Ub:¬x<P.length:=of_decide_eq_false I;go_wp2;go_ret;exact⟨az H.o.symm,rfl⟩
    . rw[h1,I]at H;have VZ:0<=x:=of_decide_eq_true h1;have Ub:x<P.length:=of_decide_eq_true I;cases O:decide (x∈P);. rw[O]at H Y;clear O;go_wp2_with (go_at_call 134;refine Y.o.mono ?_;rintro e w' ⟨rfl,rfl⟩);go_ret;exact⟨az H.o.symm,rfl⟩
      . rw[O]at H Y;clear O;go_wp2_with (go_at_call 134;refine Y.o.mono ?_;rintro e w' ⟨rfl,rfl⟩);go_ret;exact⟨az H.o.symm,rfl⟩
def sV(h:¬(0<=v/\v<P.length)):dep P f v=0:=by
 cases f with
 |zero=>rfl
 |succ f=>unfold dep;rw[if_neg h]
def FQ(H:0<=v)(h:P[v.toNat]? =some p):dep P (f+1) v=dep P f p+1:=by have:=(List.getElem?_eq_some_iff.1 h).1;show(if 0<=v/\v<P.length then dep P f (P.getD v.toNat 0)+1 else 0)=_;rw[if_pos ahy,bp h]
def zo(w:World)(v:Value)(P:List Int)(x:Int)(h:RdL w v 1 encI P):E 102 #[v,J x] w λe w'=>e= returned (J ((depL P x:Nat):Int))/\w=w':=by
  obtain⟨A,cap,rfl,l1,l2,V⟩:=h;have HR:=qh V;clear V;go_enter func102,ntmps102;go_wp2;go_loop [1,5,6] (λy m i=>∃(k n:Nat) (z:Int),i= J k/\m= J n/\y= J z/\k<=P.length/\n<=k/\n+dep P (P.length-k) z=depL P x) (λ_ _ i=>P.length-(intOf i).toNat);case atStart=>exact⟨0,0,x,rfl,rfl,rfl,by omega,by omega,by simp[depL]⟩
  case round=>
    obtain⟨k,n,z,rfl,rfl,rfl,hk,hn,hd⟩:=hrel;have I:=qh hd;clear hd;by_cases C':k<P.length
    . by_cases h0:0<=z
      . by_cases h1:z<P.length
        . obtain⟨bl,off,rfl,Lf,hc⟩:=HR.o ahy;obtain⟨m,rfl⟩:=Int.eq_ofNat_of_zero_le h0;obtain⟨p,O⟩:=ai (show m<P.length by omega);have c0:=hc m p O 0 _ rfl;simp only[Nat.add_zero,Nat.mul_one]at c0
          have Y:=qh (show n+1+dep P (P.length-(k+1)) p=depL P x from by
            have:=I.o;rw[show P.length-k=P.length-(k+1)+1 by omega,FQ ahy (by simpa using O)]at this
            omega)
          clear hc O;go_wp2;go_round;case rel=>exact⟨k+1,n+1,p,by go_num,by go_num,rfl,by omega,by omega,Y.o⟩
          case measure=>simp[intOf];omega
        . have H:=qh (show n=depL P x from by have:=I.o;rw[sV ahy]at this;omega);go_wp2;go_ret;exact⟨aU (by rw[H.o]),rfl⟩
      . have H:=qh (show n=depL P x from by have:=I.o;rw[sV ahy]at this;omega);go_wp2;go_ret;exact⟨aU (by rw[H.o]),rfl⟩
    . have H:=qh (show n=depL P x from by have:=I.o;rw[show P.length-k=0 by omega]at this;exact this);go_wp2;go_ret;exact⟨aU (by rw[H.o]),rfl⟩
end
section
open Go.RowKit
theorem wu(w:World)(vP vT:Value)(P T:List Int)(hP:RdL w vP 1 encI P)(hT:RdL w vT 1 encI T):E 48 #[agg #[vP,vT]] w λe w'=>e= returned (J (a5 P T))/\Below w.heap.size w w':=by
  have Kn:Below w.heap.size w (w.alloc (cells #[vP,vT] 24)):=(Below.refl _ _).alloc (Nat.le_refl _) _;have V:=qh Kn;have Oc:=qh (hP.alloc (cells #[vP,vT] 24));have Sh:=qh (hT.alloc (cells #[vP,vT] 24));obtain⟨AP,cP,rfl,S7,S8⟩:=cj hP;obtain⟨AT,cT,rfl,QA,QB⟩:=cj hT;clear hP hT Kn;have c0:(w.alloc (cells #[.slice AP P.length cP,.slice AT T.length cT] 24)).cell? w.heap.size=some (.slice AP P.length cP):=by simp[World.cell?_alloc_new]
  have c1:(w.alloc (cells #[.slice AP P.length cP,.slice AT T.length cT] 24)).cell? ⟨w.heap.size,1,none⟩=some (.slice AT T.length cT):=by simp[World.cell?_alloc_new]
  go_enter func48,ntmps48;go_upto_region 1 with fail;generalize (w.alloc (cells #[.slice AP P.length cP,.slice AT T.length cT] 24))=wb at *;by_cases a1:P.length<1;. have HE:=qh (gj (P:=P) (T:=T) (decide_eq_true (.inl a1)));go_wp2;go_ret;exact⟨aU HE.o.symm,V.o⟩
  by_cases a2:32<P.length;. have HE:=qh (gj (P:=P) (T:=T) (decide_eq_true (.inr (.inl a2))));go_wp2;go_ret;exact⟨aU HE.o.symm,V.o⟩
  by_cases a3:T.length<1;. have HE:=qh (gj (P:=P) (T:=T) (decide_eq_true (.inr (.inr (.inl a3)))));go_wp2;go_ret;exact⟨aU HE.o.symm,V.o⟩
  by_cases a4:32<T.length;. have HE:=qh (gj (P:=P) (T:=T) (decide_eq_true (.inr (.inr (.inr a4)))));go_wp2;go_ret;exact⟨aU HE.o.symm,V.o⟩
  have HM:=qh (show jW P T=false from decide_eq_false ahy);have H0:=qh (fZ Oc.o ahy);obtain⟨p0,KK⟩:=ai (show 0<P.length by omega);obtain⟨b,off,hA,I,hc⟩:=H0.o;subst hA;have q0:=hc 0 p0 KK;simp only[Nat.add_zero]at q0;have HC:=qh hc;have P4:=qh KK;clear hc KK H0;go_upto_region 3 with fail;by_cases hz:p0= -1
  . subst hz
    have Sg:=qh (show(List.range 1).all (okP P)=true from by
      have:=bp P4.o;show(okP P 0&&true)=true;rw[Bool.and_true]
      exact decide_eq_true ⟨λ_=>this,λh=>absurd h ahy⟩)
    go_wp2;go_loop [3] (λi=>∃k:Nat,i= J k/\1<=k/\k<=P.length/\(List.range k).all (okP P)=true) (λi=>P.length-(intOf i).toNat);case atStart=>exact⟨1,rfl,by omega,by omega,Sg.o⟩
    case round=>
      obtain⟨k,rfl,ad,hk,ha⟩:=hrel;by_cases C':k<P.length
      . obtain⟨p,hp⟩:=ai C';have q1:=HC.o k p hp;have HP:=qh (And.intro (bp hp) ha);clear hp ha;by_cases g0:p<0;. have H:=qh (ln HM.o (ky C' (decide_eq_false (by rw[HP.o.1];omega))));go_wp2;go_ret;exact⟨aU H.o.symm,V.o⟩
        . by_cases g1:(k:Int)<=p;. have H:=qh (ln HM.o (ky C' (decide_eq_false (by rw[HP.o.1];omega))));go_wp2;go_ret;exact⟨aU H.o.symm,V.o⟩
          . have H:=qh (show(List.range (k+1)).all (okP P)=true from by
              rw[j3,HP.o.2,Bool.true_and]
              exact decide_eq_true (by rw[HP.o.1];omega))
            go_wp2;go_round;case rel=>exact⟨k+1,by go_num,by omega,by omega,H.o⟩
            case measure=>simp[intOf];omega
      . obtain rfl:k=P.length:=by omega
        have OZ:=qh (show dX P=true from ha);clear ha;go_wp2;go_loop [4,5] (λf i=>∃k:Nat,i= J k/\k<=P.length/\f= J (first P k:Nat)/\evL P (am P k)=true) (λ_ i=>P.length-(intOf i).toNat);case atStart=>exact⟨0,rfl,by omega,rfl,rfl⟩
        case round=>
          obtain⟨k,rfl,hk,rfl,Mc⟩:=hrel;by_cases C':k<P.length
          . have Y:=qh (qF wb _ P k Oc.o);have QF:=qh Mc;clear Mc;cases O:dq P k
            . have H:=qh (And.intro (vl O) (show am P (k+1)=am P k from by rw[cJ,O];rfl));rw[O]at Y;clear O;go_wp2_with (go_at_call 101;refine Y.o.mono ?_;rintro e w' ⟨rfl,rfl⟩);go_round;case rel=>exact⟨k+1,by go_num,by omega,by rw[H.o.1],by rw[H.o.2];exact QF.o⟩
              case measure=>simp[intOf];omega
            . have Kp:=vm C' O;rw[QF.o,Bool.true_and]at Kp;have HD:=qh (zo wb _ P k Oc.o);rw[O]at Y;have Mw:=oK C';obtain⟨d,hd⟩:=LE (depL P k);obtain⟨f,hf⟩:=LE (first P k);rw[<-hd]at HD Kp Mw;rw[<-hf]at Kp ⊢;have Ly:=qh (And.intro Kp (And.intro hd hf));have Qd:evL P (am P (k+1))=false->a5 P T=9:=λh=>ov HM.o OZ.o (Bk ahy h);have Py:=qh Qd;clear Kp hd hf Qd O;by_cases f0:f=0
              . subst f0;by_cases g1:5<d;. have H:=qh (Py.o (by rw[Ly.o.1.2];exact decide_eq_false ahy));go_wp2_with (first|(go_at_call 101;refine Y.o.mono ?_;rintro e w' ⟨rfl,rfl⟩)|(go_at_call 102;refine HD.o.mono ?_;rintro e w' ⟨rfl,rfl⟩));go_ret;exact⟨aU H.o.symm,V.o⟩
                . have HF:=qh (show first P (k+1)=d from by rw[Ly.o.1.1];rfl);have H:=qh (show evL P (am P (k+1))=true from by rw[Ly.o.1.2];exact decide_eq_true ⟨by rw[HF.o],by omega⟩);go_wp2_with (first|(go_at_call 101;refine Y.o.mono ?_;rintro e w' ⟨rfl,rfl⟩)|(go_at_call 102;refine HD.o.mono ?_;rintro e w' ⟨rfl,rfl⟩));go_round;case rel=>exact⟨k+1,by go_num,by omega,by rw[HF.o],H.o⟩
                  case measure=>simp[intOf];omega
              . have HF:=qh (show first P (k+1)=f from by rw[Ly.o.1.1,if_neg f0]);have e0:(f==0)=false:=(by simpa using f0);have ab:((f:Int)==0)=false:=(by rw[beq_eq_false_iff_ne];omega);by_cases g0:d=f
                . subst g0;by_cases g1:5<d;. have H:=qh (Py.o (by rw[Ly.o.1.2];exact decide_eq_false ahy));go_wp2_with (first|(go_at_call 101;refine Y.o.mono ?_;rintro e w' ⟨rfl,rfl⟩)|(go_at_call 102;refine HD.o.mono ?_;rintro e w' ⟨rfl,rfl⟩));go_ret;exact⟨aU H.o.symm,V.o⟩
                  . have H:=qh (show evL P (am P (k+1))=true from by rw[Ly.o.1.2];exact decide_eq_true ⟨by rw[HF.o],by omega⟩);go_wp2_with (first|(go_at_call 101;refine Y.o.mono ?_;rintro e w' ⟨rfl,rfl⟩)|(go_at_call 102;refine HD.o.mono ?_;rintro e w' ⟨rfl,rfl⟩));go_round;case rel=>exact⟨k+1,by go_num,by omega,by rw[HF.o],H.o⟩
                    case measure=>simp[intOf];omega
                . have H:=qh (Py.o (by rw[Ly.o.1.2];exact decide_eq_false (by rw[HF.o];omega)));have e1:(d !=f)=true:=(by simpa using g0);have Sn:((d:Int) !=(f:Int))=true:=(by rw[bne_iff_ne];omega);go_wp2_with (first|(go_at_call 101;refine Y.o.mono ?_;rintro e w' ⟨rfl,rfl⟩)|(go_at_call 102;refine HD.o.mono ?_;rintro e w' ⟨rfl,rfl⟩));go_ret;exact⟨aU H.o.symm,V.o⟩
          . obtain rfl:k=P.length:=by omega
            have QF:=qh (xp (T:=T) HM.o OZ.o Mc);have No:=qh (fZ Sh.o ahy);obtain⟨bt,XD,Y6,Pc,Nz⟩:=No.o;subst Y6;have Mq:=qh Nz;clear Nz Mc No;go_wp2;go_loopw [7] (λi wr=>∃j:Nat,i= J j/\j<=T.length/\(T.take j).all (dq P)=true/\Qt wb wr) (λi _=>T.length-(intOf i).toNat);case atStart=>exact⟨0,rfl,by omega,rfl,Qt.refl _⟩
            case round=>
              obtain⟨j,rfl,hj,ha,hq⟩:=hrel;obtain⟨wq,rfl⟩:∃wq:World,wq=wr:=⟨_,rfl⟩;have d0:wq.cell? w.heap.size=some (slice (some ⟨b,off,none⟩) P.length cP):=(by obtain⟨n,rfl⟩:=hq;exact c0);have d1:Z wq w.heap.size 1 (slice (some ⟨bt,XD,none⟩) T.length cT):=(by obtain⟨n,rfl⟩:=hq;exact c1);have HQ:=qh hq;by_cases Rx:j<T.length
              . obtain⟨x,hx⟩:=ai Rx;have q2:Z wq bt (XD+j) (J x):=(by obtain⟨n,rfl⟩:=hq;exact Mq.o j x hx);have HX:=qh (And.intro hx ha);have Y:=qh (λn=>(qF (wq.drewN n) _ P x ((Oc.o.qt HQ.o).drewN n)).mono λ_ _ h=>And.intro h.1 h.2.symm);clear hx ha hq;cases O:dq P x
                . have H:=qh (show a5 P T=4 from by
                    rw[QF.o,if_neg];intro h;unfold thrB at h;rw[List.all_eq_true]at h;rw[h x (List.mem_of_getElem? HX.o.1)]at O
                    cases O)
                  rw[O]at Y;clear O;go_wp2_with fail;go_quiet ((go_at_call 101;exact Calls.quiet_of_same (Y.o _)));go_wp2;go_ret;exact⟨aU H.o.symm,bO (V.o.trans ((HQ.o.below _).mono V.o.size)) _⟩
                . have H:=qh (show(T.take (j+1)).all (dq P)=true from by rw[a9 HX.o.1,List.all_append,HX.o.2];simp[O]);rw[O]at Y;clear O;go_wp2_with fail;go_quiet ((go_at_call 101;exact Calls.quiet_of_same (Y.o _)));go_wp2;go_roundw;case rel=>exact⟨j+1,by go_num,by omega,H.o,HQ.o.trans ⟨_,rfl⟩⟩
                  case measure=>simp[intOf];omega
              . obtain rfl:j=T.length:=by omega
                rw[List.take_length]at ha;have H:=qh (show a5 P T=0 from by rw[QF.o,if_pos (show thrB P T=true from ha)]);clear ha hq;go_wp2;go_ret;exact⟨aU H.o.symm,V.o.trans ((HQ.o.below _).mono V.o.size)⟩
  . have H:=qh (ln (P:=P) HM.o (ky (k:=0) ahy (decide_eq_false (by rw[bp P4.o];omega))));have e1:(p0 != -1)=true:=(by simpa using hz);clear hz;go_wp2;go_ret;exact⟨aU H.o.symm,V.o⟩
end
section
open Go.RowKit
def py(b:Int)(w:World)(I:0<=b)(h1:b<=1000):E 135 #[J b] w λe w'=>e= returned (bool true)/\w=w':=by
 have h:E 171 #[J b,J 0,J 1000] w λe w'=>e= returned (bool true)/\w=w':=by go_enter func171,ntmps171;exact aab
 have H:=qh h;clear h;go_enter func135,ntmps135;go_wp2_with fail;refine LT H.o ?_;exact aab
def j6(P T:List Int)(m:Int):Bool:=decide (a5 P T=0/\(T.length:Int)<=m)
def CT(w:World)(h H:Value)(P T:List Int)(hP:RdL w h 1 encI P)(hT:RdL w H 1 encI T)(m:Int):E 10 #[agg #[h,H],J m] w λe w'=>e= returned (bool (j6 P T m))/\Below w.heap.size w w':=by
  have HC:=qh (wu (w.alloc (cells #[h,H] 24)) h H P T (hP.alloc _) (hT.alloc _));have I:=qh ((Below.refl w.heap.size w).alloc (Nat.le_refl _) (cells #[h,H] 24));obtain⟨AP,cP,rfl,S7,S8⟩:=cj hP;obtain⟨O,cT,rfl,QA,QB⟩:=cj hT;have hX:(w.alloc (cells #[.slice AP P.length cP,.slice O T.length cT] 24)).cell? ⟨w.heap.size,1,none⟩=some (.slice O T.length cT):=by simp[World.cell?_alloc_new]
  have Mb:w.heap.size<(w.alloc (cells #[.slice AP P.length cP,.slice O T.length cT] 24)).heap.size:=by simp
  clear hP hT;by_cases hc:a5 P T=0;. have t0:(a5 P T==0)=true:=(by simpa using hc);have V:Kq (j6 P T m=decide ((T.length:Int)<=m)):=qh (by unfold j6;simp[hc]);clear hc;go_enter func10,ntmps10;go_wp2_with fail;refine Pi HC.o λw1 b1=>?_;have f1:=(b1.o.cell (p:=⟨w.heap.size,1,none⟩) Mb).trans hX;have Y:=qh (I.o.trans (b1.o.mono I.o.size));clear hX Mb;go_wp2;go_ret;rw[V.o];exact⟨rfl,Y.o⟩
  . have t0:(a5 P T==0)=false:=(by simpa using hc);have V:Kq (j6 P T m=false):=qh (by unfold j6;simp[hc]);clear hc hX Mb;go_enter func10,ntmps10;go_wp2_with fail;refine Pi HC.o λw1 b1=>?_;have Y:=qh (I.o.trans (b1.o.mono I.o.size));go_wp2;go_ret;rw[V.o];exact⟨rfl,Y.o⟩
def Ag(w:World)(vP vT:Value)(m:Int):Prop:=∀W,Below w.heap.size w W->E 10 #[agg #[vP,vT],J m] W λe w'=>e= returned (bool false)/\Below W.heap.size W w'
def Ag.of{h H:Value}{m:Int}(I:RdL w h 1 encI P)(O:RdL w H 1 encI T)(hs:j6 P T m=false):Ag w h H m:=λW b=>by
 have:=CT W h H P T (I.below b (Nat.le_refl _)) (O.below b (Nat.le_refl _)) m
 rw[hs]at this
 exact this
theorem ww(w:World)(I O:Option Addr)(H cP nT V:Nat)(h:32<H\/32<nT)(h1:H<=9223372036854775807)(h2:nT<=9223372036854775807):E 48 #[agg #[.slice I H cP,.slice O nT V]] w λe w'=>e= returned (J 8)/\Below w.heap.size w w':=by
  have Y:=qh ((Below.refl w.heap.size w).alloc (Nat.le_refl _) (cells #[.slice I H cP,.slice O nT V] 24));have c0:(w.alloc (cells #[.slice I H cP,.slice O nT V] 24)).cell? w.heap.size=some (.slice I H cP):=by simp[World.cell?_alloc_new]
  have c1:(w.alloc (cells #[.slice I H cP,.slice O nT V] 24)).cell? ⟨w.heap.size,1,none⟩=some (.slice O nT V):=by simp[World.cell?_alloc_new]
  go_enter func48,ntmps48;go_upto_region 1 with fail;generalize (w.alloc (cells #[.slice I H cP,.slice O nT V] 24))=wb at *;by_cases a1:H<1;. go_wp2;go_ret;exact⟨rfl,Y.o⟩
  by_cases a2:32<H;. go_wp2;go_ret;exact⟨rfl,Y.o⟩
  have a4:32<nT:=by omega
  have a3:¬nT<1:=by omega
  clear h;go_wp2;go_ret;exact⟨rfl,Y.o⟩
def Ag.raw(w:World)(I O:Option Addr)(H cP nT V:Nat)(m:Int)(h:32<H\/32<nT)(h1:H<=9223372036854775807)(h2:nT<=9223372036854775807):Ag w (.slice I H cP) (.slice O nT V) m:=λW _=>by
 have HC:=qh (λw=>ww w I O H cP nT V h h1 h2)
 have Y:=qh ((Below.refl W.heap.size W).alloc (Nat.le_refl _) (cells #[.slice I H cP,.slice O nT V] 24))
 clear h h1 h2
 go_enter func10,ntmps10
 go_wp2_with fail
 refine Pi (HC.o _) λw1 b1=>?_
 have Lx:=qh (Y.o.trans (b1.o.mono Y.o.size))
 go_wp2
 go_ret
 exact⟨rfl,Lx.o⟩
end
section
open Go Go.RowKit
def uK(w:World)(a g n:Nat)(ms:MS n)(e:Ending)(w':World):Prop:=
 ∃(b:ms.1.β) (lb:Nat),e= returned (tuple #[lkP lb,J 0])/\ms.1.Good/\ms.1.ok ms.2 0/\ms.1.is b w' a g lb ms.2/\(∀x∈ms.1.fp b,w.heap.size<=x\/x=a\/x=g)/\min a g<=ms.1.bt b/\aa [a,g] w w'
def Awk(f:FuncId):Prop:=∀W,Calls prog f #[] W λe w'=>e= returned (bool true)/\Below W.heap.size W w'
end
section
open Go.RowKit
def ug(w:World):(callFunc 202 #[]).run prog w= .ok (.value (tuple #[])) w:=run_call_mark0 func202 ahB ahB ahB .disable ahB w
def xR(w:World):(callFunc 204 #[]).run prog w= .ok (.value (tuple #[])) w:=run_call_mark0 func204 ahB ahB ahB .enable ahB w
def rV(a:Addr)(w:World):(callFunc 205 #[.pointer (some a)]).run prog w= .ok (.value (tuple #[])) w:=run_call_marked func205 ahB ahB ahB .acquire ahB a w
def rW(a:Addr)(w:World):(callFunc 207 #[.pointer (some a)]).run prog w= .ok (.value (tuple #[])) w:=run_call_marked func207 ahB ahB ahB .releaseMerge ahB a w
def vx(a:Addr)(w:World)(hc:w.cell? a=some (.int .i32 0))(H:w.frozen? a=false):E 198 #[.pointer (some a)] w λe w'=>e= returned (tuple #[])/\w'=w.setCell a (.int .i32 1):=by have hd:=ug;have Y:=xR;have V:=rV;have I:=run_call_cas_hit (P:=prog) func203 ahB ahB ahB .i32 ahB (y:=1) hc H;have h:(w.setCell a (.int .i32 1)).cell? a=some (.int .i32 1):=World.cell?_setCell_same w a _ hc;have O:=run_convert_to_unsafe (P:=prog) (src:=381) (dst:=375) Tryz.underlying381 Tryz.underlying375 ahB h;go_enter func198,ntmps198;go_wp2;first|(go_end0;exact⟨rfl,rfl⟩)|exact bodyPost_ret (results_none rfl _ _ _) rfl ⟨rfl,rfl⟩|((simp only[Exit.inBlock,Exit.then]);exact bodyPost_ret (results_none rfl _ _ _) rfl ⟨rfl,rfl⟩)
def za(a:Addr)(w:World)(hc:w.cell? a=some (.int .i32 0))(H:w.frozen? a=false):E 192 #[.pointer (some a)] w λe w'=>e= returned (tuple #[])/\w'=w.setCell a (.int .i32 1):=by have h:=qh (vx a w hc H);go_enter func192,ntmps192;go_wp2_with fail;refine LT h.o ?_;go_wp2;first|(go_end0;exact⟨rfl,rfl⟩)|exact bodyPost_ret (results_none rfl _ _ _) rfl ⟨rfl,rfl⟩|((simp only[Exit.inBlock,Exit.then]);exact bodyPost_ret (results_none rfl _ _ _) rfl ⟨rfl,rfl⟩)
def rr(a:Addr)(w:World)(hc:w.cell? a=some (.int .i32 1))(h:w.frozen? a=false):E 199 #[.pointer (some a)] w λe w'=>e= returned (tuple #[])/\w'=w.setCell a (.int .i32 0):=by have hd:=ug;have O:=xR;have V:=rW;have H:=run_call_add (P:=prog) func208 ahB ahB ahB .i32 ahB (y:= -1) (s:=0) hc h (by simp[go_sem];rfl);have I:=run_convert_to_unsafe (P:=prog) (src:=381) (dst:=375) Tryz.underlying381 Tryz.underlying375 ahB hc;go_enter func199,ntmps199;go_wp2;first|(go_end0;exact⟨rfl,rfl⟩)|exact bodyPost_ret (results_none rfl _ _ _) rfl ⟨rfl,rfl⟩|((simp only[Exit.inBlock,Exit.then]);exact bodyPost_ret (results_none rfl _ _ _) rfl ⟨rfl,rfl⟩)
def nt(a:Addr)(u:FrameMode)(w:World)(hc:w.cell? a=some (.int .i32 1))(H:w.frozen? a=false):CallsD prog 193 #[.pointer (some a)] u w λe I w'=>I=u/\(e= returned (tuple #[])/\w'=w.setCell a (.int .i32 0)):=by have h:=qh (rr a w hc H);go_enter_d func193,ntmps193;go_wp2_with fail;refine LT h.o ?_;go_wp2;first|(go_end0;exact⟨rfl,rfl⟩)|exact bodyPost_ret (results_none rfl _ _ _) rfl ⟨rfl,rfl⟩|((simp only[Exit.inBlock,Exit.then]);exact bodyPost_ret (results_none rfl _ _ _) rfl ⟨rfl,rfl⟩)
def pK(a:Addr)(x:Value)(u:FrameMode)(w:World)(hc:w.cell? a=some x)(V:w.frozen? a=false):CallsD prog 194 #[.pointer (some a),bool true] u w λe I w'=>I=u/\(e= returned (tuple #[])/\w'=w.drew.setCell a (.int .u32 1)):=by
  have H:w.drew.cell? a=some x:=by go_simp
  have h:w.drew.frozen? a=false:=by go_simp
  have O:=run_call_store (P:=prog) func200 ahB ahB ahB ahB (k:= .u32) (y:=1) H h;go_enter_d func194,ntmps194;go_wp2;go_region_calls;all_goals (go_end0;exact⟨rfl,rfl⟩)
def mq(a:Addr)(n:Int)(w:World)(hc:w.cell? a=some (.int .u32 n)):E 183 #[.pointer (some a)] w λe w'=>e= returned (bool (n !=0))/\w=w':=by have h:=run_call_load (P:=prog) func191 ahB ahB ahB .u32 ahB hc;go_enter func183,ntmps183;exact aab
end
section
open Go.RowKit
def dw(b off:Nat)(w2:World):World:=(w2.drew.setCell ⟨b,off,none⟩ (.int .u32 1)).setCell ⟨b,off+1,none⟩ (.int .i32 0)
structure sq(b off:Nat)(w:World):Prop where
 c0:w.cell? ⟨b,off,none⟩=some (.int .u32 0)
 c1:w.cell? ⟨b,off+1,none⟩=some (.int .i32 1)
 f0:w.frozen? ⟨b,off,none⟩=false
 f1:w.frozen? ⟨b,off+1,none⟩=false
def CR(b off H:Nat)(x:Value)(w:World)(R:World->Prop)(h0:Z w b off (.int .u32 0))(h1:Z w b (off+1) (.int .i32 0))(f0:w.frozen? ⟨b,off,none⟩=false)(f1:w.frozen? ⟨b,off+1,none⟩=false)(Zu:H=170)(hc:E 170 #[x] (w.setCell ⟨b,off+1,none⟩ (.int .i32 1)) λe w2=>e= returned (tuple #[])/\sq b off w2/\R w2):E 184 #[pointer (some ⟨b,off,none⟩),.func (.func H) #[x] #[]] w λe w'=>e= returned (tuple #[])/\∃w2,R w2/\w'=dw b off w2:=by
  subst Zu;have I:=qh hc;have V:=qh (mq ⟨b,off,none⟩ 0 (w.setCell ⟨b,off+1,none⟩ (.int .i32 1)) ((World.cell?_setCell_other _ ⟨b,off+1,none⟩ ⟨b,off,none⟩ _ ahz).trans h0));clear hc;go_enter_defers func184,ntmps184;go_wp2_with fail;refine LT (za ⟨b,off+1,none⟩ _ h1 f1) ?_;go_wp2_with fail;refine LT V.o ?_;go_wp2_with fail;refine Pi I.o λw2 h=>?_;go_wp2;refine leaves_cons (f:=194) (args:=#[pointer (some ⟨b,off,none⟩),bool true]) ahz (by simp[go_sem]) ?_;refine(pK ⟨b,off,none⟩ (.int .u32 0) .returning _ h.o.1.c0 h.o.1.f0).mono ?_;rintro e u' Y ⟨rfl,rfl,rfl⟩;refine leaves_cons (f:=193) (args:=#[pointer (some ⟨b,off+1,none⟩)]) (by simp[settle]) (by simp[go_sem]) ?_;refine(nt ⟨b,off+1,none⟩ _ _ ?_ ?_).mono ?_;. exact(World.cell?_setCell_other _ ⟨b,off,none⟩ ⟨b,off+1,none⟩ _ ahz).trans h.o.1.c1
  . have:=h.o.1.f1;simp[this]
  rintro e u' Y ⟨rfl,rfl,rfl⟩;have O:∃w3,R w3/\(w2.drew.setCell ⟨b,off,none⟩ (.int .u32 1)).setCell ⟨b,off+1,none⟩ (.int .i32 0)=dw b off w3:=⟨w2,h.o.2,rfl⟩;simp[Leaves,settle,results,Tryz.results184];exact O
def sW(b off:Nat)(x:Value)(w:World)(R:World->Prop)(H:Z w b off (.int .u32 0))(h1:Z w b (off+1) (.int .i32 0))(f0:w.frozen? ⟨b,off,none⟩=false)(f1:w.frozen? ⟨b,off+1,none⟩=false)(hc:E 170 #[x] (w.setCell ⟨b,off+1,none⟩ (.int .i32 1)) λe w2=>e= returned (tuple #[])/\sq b off w2/\R w2):E 169 #[pointer (some ⟨b,off,none⟩),.func (.func 170) #[x] #[]] w λe w'=>e= returned (tuple #[])/\∃w2,R w2/\w'=dw b off w2:=by have O:=qh (CR b off _ x w R H h1 f0 f1 rfl hc);have I:=qh (mq ⟨b,off,none⟩ 0 w H);clear hc;go_enter func169,ntmps169;go_wp2_with fail;refine LT I.o ?_;go_wp2_with fail;refine Pi O.o λw' h=>?_;go_wp2;first|(go_end0;exact⟨rfl,h.o⟩)|exact bodyPost_ret (results_none rfl _ _ _) rfl ⟨rfl,h.o⟩
def DK(b off:Nat)(H:Value)(w:World)(I:Z w b off (.int .u32 1)):E 169 #[pointer (some ⟨b,off,none⟩),H] w λe w'=>e= returned (tuple #[])/\w=w':=by have h:=qh (mq ⟨b,off,none⟩ 1 w I);go_enter func169,ntmps169;go_wp2_with fail;refine LT h.o ?_;go_wp2;first|(go_end0;exact⟨rfl,rfl⟩)|exact bodyPost_ret (results_none rfl _ _ _) rfl ⟨rfl,rfl⟩
end
section
open Go.RowKit
def yR(l:List Int):∀u∈l.flatMap encI,u.oneCell'=true:=by intro u h;rw[iQ]at h;obtain⟨x,_,rfl⟩:=List.mem_map.1 h;rfl
def BY(w:World):(w.alloc (cells #[] 3)).ownsRow w.heap.size 3 1 (slice (some ⟨w.heap.size,0,none⟩) 0 0) 0 []:=by exact⟨rfl,.inr ⟨w.heap.size,0,#[],rfl,Nat.le_refl _,heap_alloc_new w _,Nat.le_refl _,by simp[maxLen],rfl,rfl⟩⟩
def mx(w:World)(v:Value)(l:List Int)(h:RdL w v 1 encI l)(ad:l.length<=1000):E 78 #[v] w λe w'=>∃v',e= returned v'/\w'.ownsRow w.heap.size 3 1 v' l.length (l.flatMap encI)/\Below w.heap.size w w':=by
  refine ajC ?_;intro i0 hi Kt Kv hz2 HI;clear hi Kt Kv hz2;have HR:=qh h;obtain⟨A,cap,rfl,l1,l2,V⟩:=h;cases A with
  | none=>
    have hl:l=[]:=by
      rcases Nat.eq_zero_or_pos l.length with O|O
      . exact List.eq_nil_of_length_eq_zero O
      . obtain⟨b,off,e,_⟩:=V O;cases e
    subst hl;clear V HR;simp only[List.length_nil];have hn:=Lib.run_eql_slice_nil w 22 3 none 0 cap 0 0 Tryz.underlying22;simp only[Option.isNone]at hn;go_enter func78,ntmps78;go_wp2;go_ret;exact⟨_,rfl,World.ownsRow_nil _ _ _ _,Below.refl _ _⟩
  | some I=>
    have HN:=qh (show ∀(j:Nat) (u:Value),(l.flatMap encI)[j]? =some u->w.cell? (I.add j)=some u from by
      intro j u H;have Y:j<l.length:=(by have:=(List.getElem?_eq_some_iff.1 H).1;rw[iQ]at this;simpa using this);obtain⟨b,off,e,_,hc⟩:=V ahy;injection e with e;subst e;obtain⟨x,hx⟩:=ai Y;have h1:=hc j x hx 0 _ rfl;rw[iQ]at H;simp[hx]at H;subst H;have e2:(⟨b,off,none⟩:Addr).add j=⟨b,off+j,none⟩:=(by unfold Addr.add;by_cases ab:j=0<;>simp[ab]);rw[e2]
      simpa using h1)
    have LC:(l.flatMap encI).length=l.length*1:=(by rw[iQ];simp);have hn:=Lib.run_eql_slice_nil w 22 3 (some I) l.length cap 0 0 Tryz.underlying22;simp only[Option.isNone]at hn;clear V;go_enter func78,ntmps78;go_wp2_with (at_builtin;go_loud (refine wpList_append_own _ rfl _ _ 22 rfl w.heap.size 3 i0 (J 0) 1 8 Tryz.underlying22 HI.o.1 HI.o.2.1 HI.o.2.2.1 HI.o.2.2.2 rfl ahA _ 0 [] rfl (BY w) I l.length cap (l.flatMap encI) rfl LC ?c1 (yR l) ?c3 ?c4 ?c5 ?_));case c1=>exact λj u H=>(World.cell?_alloc_lt _ _ _ (by have:=aM (HN.o j u H);exact this)).trans (HN.o j u H)
    case c3=>unfold maxLen;omega
    case c4=>omega
    case c5=>simp
    intro v' w' NE NB PQ;have HO:=qh (And.intro NE NB);clear NE NB PQ;go_wp2;go_ret;exact⟨_,rfl,by have:=HO.o.1;simpa using this,(((Below.refl _ _).alloc (Nat.le_refl _) _).grown HO.o.2 ahz (λj Y=>by simp[Value.ownBlock]at Y;omega))⟩
end
section
open Go.RowKit
def RdL.turns{α:Type}{v:Value}{enc:α->List Value}{l:List α}(h:RdL w v sz enc l)(k:aa S w w')(hn:∀g,v.ownBlock=some g->g∉S):RdL w' v sz enc l:=by obtain⟨A,cap,rfl,H,O,V⟩:=h;refine⟨A,cap,rfl,H,O,λhl=>?_⟩;obtain⟨b,off,rfl,I,hc⟩:=V hl;have Y:b∉S:=hn b rfl;refine⟨b,off,rfl,Nat.lt_of_lt_of_le I k.size,λi x hx j u hu=>?_⟩;rw[World.cell?_of_block (w:=w) (w':=w') (a:=⟨b,off+i*sz+j,none⟩) (k.block b I Y)];exact hc i x hx j u hu
def rM:Value:= .slice none 0 0
structure JN(w:World)(b:Nat)(P T:List Int):Prop where
 ex:∃AP cP AT cT,Blk w b 213 #[.slice AP P.length cP,.slice AT T.length cT,.int .u32 0,.int .i32 0,.int .u32 0,.slice none 0 0,.slice none 0 0,.slice none 0 0,.slice none 0 0]/\RdL w (.slice AP P.length cP) 1 encI P/\RdL w (.slice AT T.length cT) 1 encI T/\(∀g,(Value.slice AP P.length cP).ownBlock=some g->g≠b)/\(∀g,(Value.slice AT T.length cT).ownBlock=some g->g≠b)
end
section
open Go.RowKit
structure eT where
 e:TypeId
 v:Value
 n:Nat
 xs:List Value
structure gi(w:World)(B b:Nat)(l:List eT):Prop where
 own:∀r∈l,w.ownsRow B r.e 1 r.v r.n r.xs
 ne:∀(i j:Nat) (r s:eT),l[i]? =some r->l[j]? =some s->i≠j->∀g,r.v.ownBlock=some g->s.v.ownBlock≠some g
 nb:∀r∈l,r.v.ownBlock≠some b
section
variable{B:Nat}{l:List eT}
def gi.below(h:gi w B b l)(k:Below w.heap.size w w'):gi w' B b l:=⟨λr V=>i7 (h.own r V) k,h.ne,h.nb⟩
def gi.turn(h:gi w B b l)(k:aa [b] w w'):gi w' B b l:=
 ⟨λr V=>aa.own (h.own r V) k (λg hg hm=>h.nb r V (by simp at hm;rw[<-hm];exact hg)),h.ne,h.nb⟩
def gi.app(h:gi w B b l){r:eT}(hi:l[i]? =some r)(I:b<w.heap.size)(hg:w.grownBy w' r.v.ownBlock){v':Value}{n':Nat}{xs':List Value}(Y:w'.ownsRow B r.e 1 v' n' xs')(Oh:v'.ownBlock=r.v.ownBlock\/∃g,w.heap.size<=g/\v'.ownBlock=some g):gi w' B b (l.set i ⟨r.e,v',n',xs'⟩):=by
  have MU:i<l.length:=(List.getElem?_eq_some_iff.1 hi).1;have C':∀s∈l,∀g,s.v.ownBlock=some g->g<w.heap.size:=λs hs g hg=>((h.own s hs).lt g hg).2
  have MC:∀(j:Nat) (s:eT),(l.set i ⟨r.e,v',n',xs'⟩)[j]? =some s->(j=i/\s=⟨r.e,v',n',xs'⟩)\/(j≠i/\l[j]? =some s):=λj s H=>by
    rw[List.getElem?_set]at H;by_cases e:i=j;. subst e;rw[if_pos rfl,if_pos MU]at H;injection H with H;exact .inl ⟨rfl,H.symm⟩
    . rw[if_neg e]at H;exact .inr ⟨λh=>e h.symm,H⟩
  have SW:∀(j:Nat) (s:eT),l[j]? =some s->j≠i->w'.ownsRow B s.e 1 s.v s.n s.xs:=λj s H V=>by
    cases O:r.v.ownBlock with
    | none=>rw[O]at hg;exact aa.own (S:=[]) (h.own s (List.mem_of_getElem? H)) ⟨hg.os,hg.tape,hg.output,hg.size,λi hi _=>hg.block i hi ahz⟩ (λ_ _=>by simp)
    | some g=>
      rw[O]at hg
      exact aa.own (h.own s (List.mem_of_getElem? H)) (aa.grown hg) (λg' Ol hm=>by
        simp at hm;subst hm
        exact h.ne i j r s hi H (λe=>V e.symm) g' O Ol)
  have UE:∀g,v'.ownBlock=some g->r.v.ownBlock=some g\/w.heap.size<=g:=λg Ol=>by
    rcases Oh with e|⟨c,hc,e⟩
    . exact .inl (by rw[<-e];exact Ol)
    . rw[e]at Ol;injection Ol with Ol;exact .inr ahy
  refine⟨λs hs=>?_,λj k s t H hk V g Rr LW=>?_,λs hs Ls=>?_⟩
  . obtain⟨j,H⟩:=List.getElem?_of_mem hs;rcases MC j s H with⟨rfl,rfl⟩|⟨e,MM⟩
    . exact Y
    . exact SW j s MM e
  . rcases MC j s H with⟨rfl,rfl⟩|⟨e1,MM⟩
    . rcases MC k t hk with⟨rfl,rfl⟩|⟨e2,KO⟩
      . exact V rfl
      . rcases UE g Rr with hx|hx
        . exact h.ne j k r t hi KO V g hx LW
        . have:=C' t (List.mem_of_getElem? KO) g LW;omega
    . rcases MC k t hk with⟨rfl,rfl⟩|⟨e2,KO⟩
      . rcases UE g LW with hx|hx
        . exact h.ne j k s r MM hi V g Rr hx
        . have:=C' s (List.mem_of_getElem? MM) g Rr;omega
      . exact h.ne j k s t MM KO V g Rr LW
  . obtain⟨j,H⟩:=List.getElem?_of_mem hs;rcases MC j s H with⟨rfl,rfl⟩|⟨e,MM⟩
    . rcases UE b Ls with hx|hx
      . exact h.nb r (List.mem_of_getElem? hi) hx
      . omega
    . exact h.nb s (List.mem_of_getElem? MM) Ls
def gi.push(h:gi w B b l)(e:TypeId):gi w B b (l++[⟨e,.slice none 0 0,0,[]⟩]):=by
 have O:∀(j:Nat) (s:eT),(l++[⟨e,.slice none 0 0,0,[]⟩])[j]? =some s->l[j]? =some s\/s=⟨e,.slice none 0 0,0,[]⟩:=λj s H=>by
  rw[List.getElem?_append]at H;split at H;.exact .inl H
  .rw[List.getElem?_singleton]at H;split at H;.injection H with H;exact .inr H.symm
   .cases H
 refine⟨λr V=>?_,λi j r s hi H I g h1 Y=>?_,λr V=>?_⟩
 .rcases List.mem_append.1 V with V|V
  .exact h.own r V
  .simp at V;subst V;exact World.ownsRow_nil _ _ _ _
 .rcases O i r hi with a|a
  .rcases O j s H with c|c
   .exact h.ne i j r s a c I g h1 Y
   .subst c;cases Y
  .subst a;cases h1
 .rcases List.mem_append.1 V with V|V
  .exact h.nb r V
  .simp at V;subst V;simp[Value.ownBlock]
end
def upF(P:List Int):Nat->Int->List Int
 |0,_=>[]
 |f+1,v=>if 0<=v/\v<P.length then v :: upF P f (P.getD v.toNat 0)else[]
def upL(P:List Int)(v:Int):List Int:=upF P P.length v
def ao(P T:List Int)(k:Nat):List Int:=(T.take k).map (fM (ac P))
def cQ(T:List Int)(i:Nat):Int:=(((T.take i).count (T.getD i 0):Nat):Int)
def a6(T:List Int)(k:Nat):List Int:=(List.range k).map (cQ T)
def aH(P T:List Int)(k:Nat):List Int:=(ac P).map λleaf=>(((T.take k).count leaf:Nat):Int)
def pQ{P:List Int}(h:dX P=true):∀(f:Nat) (v:Int),v<f->∀g:Nat,v<g->upF P f v=upF P g v
 |0,v,O,g,hg=>by
  cases g with
  |zero=>rfl
  |succ g=>unfold upF;rw[if_neg ahy]
 |f+1,v,O,g,hg=>by
  cases g with
  |zero=>unfold upF;rw[if_neg ahy]
  |succ g=>
   unfold upF;split;.rename_i I;obtain⟨p,H⟩:=ai (show v.toNat<P.length by omega);have:=gJ h H;rw[bp H,pQ h f p ahy g ahy]
   .rfl
def gx(h:dX P=true){v:Nat}(H:P[v]? =some p):upL P v=(v:Int) :: upL P p:=by
 have I:=(List.getElem?_eq_some_iff.1 H).1;have O:=gJ h H;unfold upL;rw[pQ h P.length v ahy (v+1) ahy];show(if 0<=(v:Int)/\(v:Int)<P.length then(v:Int) :: upF P v (P.getD (v:Int).toNat 0)else[])=_;rw[if_pos ahy,Int.toNat_natCast,bp H];by_cases V:0<=p;.rw[pQ h v p ahy P.length ahy]
 .cases v with
  |zero=>show _ :: []=_ :: upF P P.length p;exact aaf
  |succ v=>
   cases hn:P.length with
   |zero=>omega
   |succ n=>unfold upF;rw[if_neg ahy,if_neg ahy]
def ya(h:p<0):upL P p=[]:=by unfold upL;exact aaf
end
section
open Go Go.RowKit Go.Maps
def oq(w:World)(t:TypeId)(u:Value)(hg:g=w.heap.size):∀j x,[u][j]? =some x->(w.alloc (cells #[u] t)).cell? ((⟨g,0,none⟩:Addr).add j)=some x:=by intro j x h;subst hg;refine akb ?_;intro Mj;simpa using h
def GY{a:Nat}{s:Ar}(h:aB w a g s):E 64 #[↑a] w λe w'=>∃v,e= returned v/\RdL w' v 1 encI s.W/\(∀q,v.ownBlock=some q->w.heap.size<=q)/\Below w.heap.size w w':=by
  obtain⟨i0,hi,Kt,Kv,ab⟩:=info_parts Tryz.infoIn;have Nd:=h.le;have OO:=h.room;have H:=qh h;have c0:=h.c0;have NP:=h.blk.lt;clear h;go_enter func64,ntmps64;go_wp2_with fail;refine LT (nL H.o) ?_;go_wp2;go_loopw [3,7] (λv i wr=>∃(k:Nat),i= J k/\k<=s.W.length/\wr.ownsRow w.heap.size 3 1 v k ((s.W.take k).flatMap encI)/\Below w.heap.size w wr) (λ_ i _=>s.W.length-(intOf i).toNat);case atStart=>exact⟨0,rfl,by omega,World.ownsRow_nil _ _ _ _,Below.refl _ _⟩
  case round=>
    obtain⟨k,rfl,hk,O,I⟩:=hrel;have Y:=H.o.turns (S:=[]) (aa.of_below I) ahz ahz;by_cases C':k<s.W.length
    . obtain⟨A',cp,rfl⟩:=bC O;have c1:=Y.c0;have Qy:=(Y.word (i:=k) C').1;have KR:=I.size;have ad:(k:Int)<s.room:=(by omega);have V:=qh (And.intro I Y);obtain⟨z,hz⟩:=LE (s.W.getD k 0);rw[<-hz]at Qy;have KW:s.W[k]? =some z:=(by rw[hz,List.getD_eq_getElem?_getD,List.getElem?_eq_getElem C'];rfl);have HZ:=qh KW;have YB:=qh Qy;clear I Y hz KW Qy c0;go_wp2_with fail;refine LT (E8 _ _ z YB.o rfl) ?_;go_wp2_with (at_builtin;refine wpList_append_own _ rfl _ _ 22 rfl w.heap.size 3 i0 (J 0) 1 8 Tryz.underlying22 hi Kt Kv ab rfl ahA _ _ _ rfl (O.alloc _) ⟨wr.heap.size,0,none⟩ 1 1 (encI z) rfl rfl (oq wr 3 (J z) rfl) (by intro u hu;simp[encI]at hu;subst hu;rfl) ?c3 ?c4 ?c5 ?_);case c3=>unfold maxLen;omega
      case c4=>omega
      case c5=>simp;omega
      intro v' w2 h2 LW _;have h3:w2.ownsRow w.heap.size 3 1 v' (k+1) ((s.W.take (k+1)).flatMap encI):=(by rw[a9 HZ.o,List.flatMap_append];simpa using h2);have HF:=qh (And.intro h3 ((V.o.1.alloc KR (cells #[J z] 3)).grown LW ahD (λj hj=>(O.lt j hj).1)));clear h2 LW h3 O;go_wp2;go_roundw;case rel=>first|exact⟨k+1,by go_num,by omega,HF.o.1,HF.o.2⟩|((repeat apply Exists.intro);exact⟨⟨k+1,by go_num,by omega,HF.o.1,HF.o.2⟩,rfl⟩)
      case measure=>simp[intOf];omega
    . obtain rfl:k=s.W.length:=by omega
      rw[List.take_length]at O;have V:=qh (And.intro O I);clear O I Y;go_wp2;go_ret;exact⟨_,rfl,RdL.of_own jP rfl ahy V.o.1,λq hq=>(V.o.1.lt q hq).1,V.o.2⟩
def RdL.farT{α:Type}{v:Value}{enc:α->List Value}{l:List α}(h:RdL w v sz enc l)(t:aa S w w')(O:∀q,v.ownBlock=some q->q∉S):RdL w' v sz enc l:=by obtain⟨A,cap,h1,H,V,Y⟩:=h;refine⟨A,cap,h1,H,V,λhn=>?_⟩;obtain⟨b,off,e,I,hc⟩:=Y hn;refine⟨b,off,e,Nat.lt_of_lt_of_le I t.size,λi x hx j u hu=>(t.cellC I (O b (by rw[h1,e];rfl))).trans (hc i x hx j u hu)⟩
section
variable{n:Nat}{M:LkM n}{X:WoB M}{st st':M.σ}
theorem Db(G:M.Good)(h:bI X w st):E 24 #[lkP X.wb] w λe w'=>∃v,e= returned v/\RdL w' v 1 encI (M.ar st).W/\(∀q,v.ownBlock=some q->w.heap.size<=q)/\Below w.heap.size w w':=by have c2:=h.wd.cell 0;have H:=qh (GY (G.ais _ _ _ _ _ _ h.is));unfold lkP at *;clear h;go_enter func24,ntmps24;go_wp2_with fail;refine H.o.mono ?_;rintro en w' ⟨v,rfl,O⟩;have I:=qh O;clear O;go_wp2;go_ret;exact⟨v,rfl,I.o⟩
end
end
section
open Go.RowKit
def wT{v:Int}(h:v<0):upL P v=[]:=ya h
def JE(h:dX P=true):∀(v:Nat),v<P.length->(upL P v).length=depL P v/\∀(i:Nat) (u:Int),(upL P v)[i]? =some u->0<=u/\u<P.length/\(upL P v).drop i=upL P u/\depL P u+i=depL P v:=by
 intro v;induction v using Nat.strongRecOn with
 |_ v ih=>
  intro O;obtain⟨p,I⟩:=ai O;have hl:=gJ h I;rw[gx h I,iM h I];by_cases V:0<=p
  .obtain⟨n,rfl⟩:=Int.eq_ofNat_of_zero_le V;obtain⟨h1,h2⟩:=ih n ahy ahy;rw[if_pos V];refine⟨by rw[List.length_cons,h1],λi u H=>?_⟩;cases i with
   |zero=>simp at H;subst H;exact⟨by omega,by omega,by rw[List.drop_zero,gx h I],by rw[iM h I,if_pos V]⟩
   |succ i=>rw[List.getElem?_cons_succ]at H;obtain⟨a1,Y,a3,a4⟩:=h2 i u H;exact⟨a1,Y,by rw[List.drop_succ_cons];exact a3,by omega⟩
  .rw[if_neg V,wT ahy];refine⟨rfl,λi u H=>?_⟩;cases i with
   |zero=>simp at H;subst H;exact⟨by omega,by omega,by rw[List.drop_zero,gx h I,wT ahy],by rw[iM h I,if_neg V]⟩
   |succ i=>simp at H
def xt{v:Nat}(O:v<P.length):1<=depL P v:=oK O
def pS(h:dX P=true)(H:0<=x)(I:x<P.length):(upL P x).length=depL P x/\∀(i:Nat) (u:Int),(upL P x)[i]? =some u->0<=u/\u<P.length/\(upL P x).drop i=upL P u/\depL P u+i=depL P x:=by obtain⟨n,rfl⟩:=Int.eq_ofNat_of_zero_le H;exact JE h n ahy
def qG(h:dX P=true)(O:0<=x)(hl:x<P.length):1<=depL P x/\(upL P x)[depL P x-1]? =some 0:=by
 have hp:1<=depL P x:=by obtain⟨n,rfl⟩:=Int.eq_ofNat_of_zero_le O;exact xt ahy
 refine⟨hp,?_⟩;obtain⟨h1,h2⟩:=pS h O hl;obtain⟨u,V⟩:=ai (show depL P x-1<(upL P x).length by omega);obtain⟨a1,a2,a3,a4⟩:=h2 _ u V;obtain⟨n,rfl⟩:=Int.eq_ofNat_of_zero_le a1;obtain⟨p,Y⟩:=ai (show n<P.length by omega);have hd:=iM h Y;have ht:=x8 h Y
 have H:n=0:=by
  rcases Nat.eq_zero_or_pos n with e|e
  .exact e
  .have I:=ht.2 e;rw[if_pos I.1]at hd;obtain⟨m,rfl⟩:=Int.eq_ofNat_of_zero_le I.1;have:=xt (P:=P) (v:=m) ahy;omega
 subst H;exact V
end
end Go.Proofs.YtglokdbiggbkjaaGreat
