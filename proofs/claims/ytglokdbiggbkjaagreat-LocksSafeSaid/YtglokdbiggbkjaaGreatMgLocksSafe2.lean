/- Joined texts. -/
import Derived.Laws.OwnMore
import Derived.OwnWalk
import Derived.Maps.AppendAt
import Derived.Deep.RegionHeld3
import Derived.Deep.DeepCutAuto
import Derived.Test.YtglokdbiggbkjaaGreatRows
import Derived.Laws.Externs
import Derived.Test.YtglokdbiggbkjaaGreatMgLocksSafe0
import Derived.Test.YtglokdbiggbkjaaGreatMgLocksSafe1
set_option linter.unusedVariables false
set_option linter.unusedSimpArgs false
set_option maxRecDepth 100000
set_option maxHeartbeats 16000000
namespace Go.Proofs.YtglokdbiggbkjaaGreat
section
open Go.RowKit
theorem jR{f:Nat->Bool}{n k:Nat}(hk:k<n)(h:f k=false):(List.range n).all f=false:=by rw[List.all_eq_false];exact⟨k,List.mem_range.2 hk,by simp[h]⟩
theorem sY (w:World) (v:Value) (P:List Int) (h:RdL w v 1 encI P):
    Calls Tryz.prog 82 #[v] w λe w'=>e= .returned (.bool (dN P))/\w=w':=by
  obtain⟨A,cap,rfl,l1,l2,hr⟩:=h;have HR:=qh hr;clear hr;go_enter Tryz.func82,Tryz.ntmps82;go_wp2;go_loop [7] (λi=>∃k:Nat,i= .int .i64 k/\k<=P.length/\(List.range k).all (okP P)=true) (λi=>P.length-(intOf i).toNat);case atStart=>exact⟨0,rfl,by omega,rfl⟩
  case round=>
    obtain⟨k,rfl,hk,ha⟩:=hrel;by_cases hlt:k<P.length
    · obtain⟨bl,off,rfl,hbl,hc⟩:=HR.o QX;obtain⟨p,hp⟩:=aj hlt;have c0:=hc k p hp 0 _ rfl;simp only[Nat.add_zero,Nat.mul_one]at c0;have HP:=qh (And.intro (ba hp) ha);clear hc hp ha;by_cases hok:(k=0->p= -1)/\(0<k->0<=p/\p<k)
      · have HF:Kq ((List.range (k+1)).all (okP P)=true):=qh (by
          rw[jz,HP.o.2];simp only[Bool.true_and]
          exact decide_eq_true (by rw[HP.o.1];exact hok))
        by_cases h0:k=0
        · have e1:=hok.1 h0;subst h0;subst e1;simp only[Nat.add_zero]at c0;go_wp2;go_round;case rel=>exact⟨1,by rfl,by omega,HF.o⟩
          case measure=>simp[intOf];omega
        · obtain⟨e1,e2⟩:=hok.2 QX;have t0:((k:Int)==0)=false:=(by rw[beq_eq_false_iff_ne];omega);have t1:decide (0<k)=true:=decide_eq_true QX;have t2:decide (p<0)=false:=decide_eq_false QX;have t3:decide ((k:Int)<=p)=false:=decide_eq_false QX;clear hok h0;go_wp2;go_round;case rel=>exact⟨k+1,by go_num,by omega,HF.o⟩
          case measure=>simp[intOf];omega
      · have HF:Kq (dN P=false):=qh (jR hlt (decide_eq_false (by rw[HP.o.1];exact hok)));by_cases h0:k=0;· subst h0;simp only[Nat.add_zero]at c0;have t1:(p != -1)=true:=(by rw[bne_iff_ne];intro h;exact hok ⟨λ_=>h,by omega⟩);clear hok;go_wp2;go_ret;exact⟨az HF.o.symm,rfl⟩
        · have t0:((k:Int)==0)=false:=(by rw[beq_eq_false_iff_ne];omega);have t1:decide (0<k)=true:=decide_eq_true QX;by_cases hp0:p<0;· clear hok h0;go_wp2;go_ret;exact⟨az HF.o.symm,rfl⟩
          · have t3:decide ((k:Int)<=p)=true:=decide_eq_true QX;have t2:decide (p<0)=false:=decide_eq_false QX;clear hok h0;go_wp2;go_ret;exact⟨az HF.o.symm,rfl⟩
    · obtain rfl:k=P.length:=by omega
      have HF:Kq (dN P=true):=qh ha;clear ha;go_wp2;go_ret;exact⟨az HF.o.symm,rfl⟩
def rO (b:Bool):List Value:=[.bool b]
theorem zI (b:Bool):(rO b).length=1:=rfl
theorem Tryz.infoBool:(Tryz.prog.info? 4).map (λi=>(i.zero,i.size,i.bytes))=some (some (.bool false),1,1):=by kernel_rfl
theorem Tryz.infoIn:(Tryz.prog.info? 3).map (λi=>(i.zero,i.size,i.bytes))=some (some (.int .i64 0),1,8):=by kernel_rfl
theorem kw (u:Value)(n:Nat):(madeCells #[u] n).toList=(List.range n).map λ_=>u:=by unfold madeCells;rw[Array.toList_map,Array.toList_range];refine List.map_congr_left λi _=>?_;simp[Nat.mod_one]
theorem sC{α:Type}(enc:α->Value)(l:List α):l.map enc=l.flatMap (λx=>[enc x]):=by
 induction l with
 |nil=>rfl
 |cons a l ih=>rw[List.map_cons,List.flatMap_cons,ih];rfl
def gi (P:List Int)(k:Nat):List Bool:=(List.range P.length).map fun(u:Nat)=>decide ((u:Int)∈P.take k)
theorem lH (P:List Int)(k:Nat):(gi P k).flatMap rO=(List.range P.length).map fun(u:Nat)=>Value.bool (decide ((u:Int)∈P.take k)):=by unfold gi;show List.flatMap (λx=>[Value.bool x]) _=_;rw[<-sC Value.bool,List.map_map];rfl
theorem jV (P:List Int)(k:Nat):(gi P k).length=P.length:=by simp[gi]
theorem xA (w:World) (v:Value) (P:List Int) (h:RdL w v 1 encI P) (ht:dN P=true) (h32:P.length<=1000):
    Calls Tryz.prog 117 #[v] w λe w'=>∃v',e= .returned v'/\RdL w' v' 1 rO (gi P P.length)/\Below w.heap.size w w':=by
  obtain⟨i0,hi,hz0,hz1,hz2⟩:=info_parts Tryz.infoBool;obtain⟨A,cap,rfl,l1,l2,hr⟩:=h;have HR:=qh hr;have HT:=qh ht;clear hr ht;go_enter Tryz.func117,Tryz.ntmps117;go_wp2_with (refine wpList_make_full _ rfl (.tmp 7) (.tmp 7) 220 rfl w.heap.size 4 i0 (.bool false) 1 Tryz.underlying220 hi hz0 hz1 .i64 .i64 P.length P.length P.length rfl rfl rfl rfl ?b2 ?b3 (Nat.le_refl _) ?_);case b2=>rw[hz2];omega
  case b3=>unfold maxLen;omega
  intro w1 hown hg;have hown1:w1.ownsRow w.heap.size 4 1 (.slice (some ⟨w.heap.size,0,none⟩) P.length P.length) P.length ((gi P 0).flatMap rO):=by rw[lH];have e:(madeCells #[Value.bool false] P.length).toList=(List.range P.length).map fun(u:Nat)=>Value.bool (decide ((u:Int)∈P.take 0)):=(by rw[kw];refine List.map_congr_left λi _=>by simp);rw[e]at hown;exact hown
  have hb1:Below w.heap.size w w1:=(Below.refl w.heap.size w).grown hg (Nat.le_refl _) (λj hj=>by cases hj);clear hown hg;go_wp2;go_loopw [11] (λi wr=>∃k:Nat,i= .int .i64 k/\k<=P.length/\wr.ownsRow w.heap.size 4 1 (.slice (some ⟨w.heap.size,0,none⟩) P.length P.length) P.length ((gi P k).flatMap rO)/\Below w.heap.size w wr) (λi _=>P.length-(intOf i).toNat);case atStart=>exact⟨0,rfl,by omega,hown1,hb1⟩
  case round=>
    clear hown1 hb1;obtain⟨k,rfl,hk,hown,hbel⟩:=hrel;by_cases hlt:k<P.length
    · obtain⟨bl,off,rfl,hbl,hc⟩:=HR.o QX;obtain⟨p,hp⟩:=aj hlt;have c0:=(hbel.cell (p:=⟨bl,off+k*1+0,none⟩) hbl).trans (hc k p hp 0 _ rfl);simp only[Nat.add_zero,Nat.mul_one]at c0;have hpl:=gx HT.o hp;have HP:=qh hp;clear hc hp;by_cases h0:0<=p
      · have f0:=hown.frozenAt p.toNat;have g0:=hown.cellAt p.toNat QX;have hgl:=(hown.lt _ rfl).2;have hst:=hown.stored p.toNat (.bool true)
        have HN:Kq (∀W:World,W.ownsRow w.heap.size 4 1 (.slice (some ⟨w.heap.size,0,none⟩) P.length P.length) P.length (((gi P k).flatMap rO).set p.toNat (.bool true))->W.ownsRow w.heap.size 4 1 (.slice (some ⟨w.heap.size,0,none⟩) P.length P.length) P.length ((gi P (k+1)).flatMap rO)):=qh λW hW=>by
          rw[lH]at hW ⊢
          rw[pO P.length p.toNat _ (fun(u:Nat)=>Value.bool (decide ((u:Int)∈P.take (k+1)))) (.bool true) (by
            show Value.bool (decide (((p.toNat:Nat):Int)∈P.take (k+1)))=_
            rw[decide_eq_true ((iH HP.o _).2 (.inr QX))]) (λj hj=>by
            show Value.bool (decide ((j:Int)∈P.take (k+1)))=Value.bool (decide ((j:Int)∈P.take k));congr 1;refine decide_eq_decide.2 ?_;rw[iH HP.o]
            exact⟨λh=>h.elim id (λh=>by omega),.inl⟩)]at hW
          exact hW
        obtain⟨u,hu⟩:∃u,((gi P k).flatMap rO)[p.toNat]? =some u:=by rw[lH,iQ _ _ _ QX];exact⟨_,rfl⟩
        rw[hu]at g0;obtain⟨m,rfl⟩:=Int.eq_ofNat_of_zero_le h0;simp only[Int.toNat_natCast]at f0 g0 hst HN;have HB:=qh (And.intro hst hbel);clear hu hst hbel hown;go_wp2;go_roundw;case rel=>exact⟨k+1,by go_num,by omega,HN.o _ HB.o.1.1,HB.o.2.setCell (Nat.le_refl _) _⟩
        case measure=>simp[intOf];omega
      · have HN:Kq (gi P (k+1)=gi P k):=qh (by
          unfold gi;refine List.map_congr_left λu _=>decide_eq_decide.2 ?_;rw[iH HP.o]
          exact⟨λh=>h.elim id (λh=>by omega),.inl⟩)
        have HB:=qh (And.intro hown hbel);clear hown hbel;go_wp2;go_roundw;case rel=>exact⟨k+1,by go_num,by omega,by rw[HN.o];exact HB.o.1,HB.o.2⟩
        case measure=>simp[intOf];omega
    · obtain rfl:k=P.length:=by omega
      have HB:=qh (And.intro hown hbel);clear hown hbel;go_wp2;go_ret;exact⟨_,rfl,RdL.of_own zI (jV P _).symm (by rw[jV];omega) HB.o.1,HB.o.2⟩
end
section
open Go.RowKit
theorem cW{w:World}{b b':Nat}{e:TypeId}{sz:Nat}{v:Value}{n:Nat}{xs:List Value}(h:w.ownsRow b e sz v n xs)(hb:b'<=b):w.ownsRow b' e sz v n xs:=by
 rcases h.2 with h0|⟨g,cap,cur,q1,q2,q⟩
 ·exact⟨h.1,.inl h0⟩
 ·exact⟨h.1,.inr ⟨g,cap,cur,q1,Nat.le_trans hb q2,q⟩⟩
theorem dH{w:World}{b:Nat}{v:Value}{l:List Int}(h:w.ownsRow b 3 1 v l.length (l.flatMap encI))(hl:l.length<=140737488355328):RdL w v 1 encI l:=RdL.of_own zJ rfl hl h
theorem jZ (x:Int):∀u∈encI x,u.oneCell'=true:=by simp[encI,Value.oneCell']
theorem EC{P:List Int}{k:Nat}(hk:k<P.length):(gi P P.length)[k]? =some (decide ((k:Int)∈P)):=by unfold gi;rw[iQ _ _ _ hk,List.take_length]
theorem Ao{P:List Int}{k:Nat}(hk:k<P.length):da P k=!decide ((k:Int)∈P):=by
 unfold da;by_cases h:(k:Int)∈P;·simp[h]
 ·simp[h,hk]
theorem iz (l:List Int)(x:Int):(l++[x]).flatMap encI=l.flatMap encI++encI x:=by simp
theorem nQ (w:World) (v:Value) (P:List Int) (h:RdL w v 1 encI P) (ht:dN P=true) (h32:P.length<=1000):
    Calls Tryz.prog 83 #[v] w λe w'=>∃v',e= .returned v'/\w'.ownsRow w.heap.size 3 1 v' (ab P).length ((ab P).flatMap encI)/\Below w.heap.size w w':=by
  obtain⟨i0,hi,hz0,hz1,hz2⟩:=info_parts Tryz.infoIn;have HI:=qh (And.intro hi (And.intro hz0 (And.intro hz1 hz2)));have HC:=qh (xA w v P h ht h32);clear hi hz0 hz1 hz2 h ht;go_enter Tryz.func83,Tryz.ntmps83;go_wp2_with fail;refine HC.o.mono ?_;rintro en w1 ⟨v',rfl,hR,hb⟩;have HB:=qh hb;have hs1:=hb.size;clear hb;obtain⟨A,cap,rfl,l1,l2,hr⟩:=hR;have HR:=qh hr;clear hr;have hln:(gi P P.length).length=P.length:=jV _ _;rw[hln]at *;clear hln;go_wp2;go_loopw [3,9] (λo i wr=>∃k:Nat,i= .int .i64 k/\k<=P.length/\wr.ownsRow w1.heap.size 3 1 o (ai P k).length ((ai P k).flatMap encI)/\Below w1.heap.size w1 wr) (λ_ i _=>P.length-(intOf i).toNat);case atStart=>exact⟨0,rfl,by omega,World.ownsRow_nil _ _ _ _,Below.refl _ _⟩
  case round=>
    obtain⟨k,rfl,hk,hown,hbel⟩:=hrel;by_cases hlt:k<P.length
    · obtain⟨bl,off,rfl,hbl,hc⟩:=HR.o (by rw[jV];omega);have c0:=(hbel.cell (p:=⟨bl,off+k*1+0,none⟩) hbl).trans (hc k _ (EC hlt) 0 _ rfl);simp only[Nat.add_zero,Nat.mul_one]at c0;have hll:=aZ P k;have hsz:=hbel.size;have HS:=qh (cj P k);have HL:=qh (Ao hlt);have HO:=qh (And.intro hown hbel);obtain⟨A9,c9,rfl⟩:=bO hown;clear hc hbel;cases hm:decide ((k:Int)∈P)
      · rw[hm]at c0;have HM:=qh hm;clear hm;go_wp2_with (at_builtin;refine wpList_append_own _ rfl _ _ 22 rfl w1.heap.size 3 i0 (.int .i64 0) 1 8 Tryz.underlying22 HI.o.1 HI.o.2.1 HI.o.2.2.1 HI.o.2.2.2 rfl QZ _ _ _ rfl (hown.alloc _) ⟨wr.heap.size,0,none⟩ 1 1 (encI k) rfl rfl (cell_one_new _ _ _) (jZ _) ?c3 ?c4 ?c5 ?_);case c3=>unfold maxLen;omega
        case c4=>omega
        case c5=>simp;omega
        intro v' w' hown' hgrow hnil;have HN:=qh (And.intro hown' hgrow);clear hown' hgrow hnil hown;go_wp2;go_roundw;case rel=>exact⟨k+1,by go_num,by omega,by rw[HS.o,HL.o,HM.o];simp only[Bool.not_false,if_true];rw[iz,List.length_append];exact HN.o.1,(HO.o.2.alloc hsz _).grown HN.o.2 Q1 (λj hj=>(HO.o.1.lt j hj).1)⟩
        case measure=>simp[intOf];omega
      · rw[hm]at c0;have HM:=qh hm;clear hm hown;go_wp2;go_roundw;case rel=>exact⟨k+1,by go_num,by omega,by rw[HS.o,HL.o,HM.o];exact HO.o.1,HO.o.2⟩
        case measure=>simp[intOf];omega
    · obtain rfl:k=P.length:=by omega
      have hll:=aZ P P.length;have HO:=qh (And.intro hown hbel);clear hown hbel;go_wp2;go_ret;exact⟨_,rfl,cW HO.o.1 hs1,HB.o.trans (HO.o.2.mono hs1)⟩
def gK (P:List Int)(k:Nat):List Int:=(List.range P.length).map fun(u:Nat)=>if u<k then((depL P u:Nat):Int)else 0
def ph (P:List Int):List Int:=(List.range P.length).map fun(u:Nat)=>((depL P u:Nat):Int)
theorem xJ (P:List Int)(k:Nat):(gK P k).length=P.length:=by simp[gK]
theorem xH (P:List Int):gK P P.length=ph P:=by unfold gK ph;exact List.map_congr_left λu hu=>if_pos (List.mem_range.1 hu)
theorem iy (l:List Int):l.flatMap encI=l.map (Value.int .i64):=(sC _ _).symm
theorem pF (P:List Int)(k:Nat)(x:Int)(hx:x=((depL P k:Nat):Int)):((gK P k).flatMap encI).set k (.int .i64 x)=(gK P (k+1)).flatMap encI:=by
 rw[iy,iy];unfold gK;rw[List.map_map,List.map_map];refine pO P.length k _ _ _ ?_ λj hj=>?_;·show Value.int .i64 (if k<k+1 then _ else _)=_;rw[if_pos QX,hx]
 ·show Value.int .i64 (if j<k+1 then _ else _)=Value.int .i64 (if j<k then _ else _);by_cases h:j<k;·rw[if_pos h,if_pos QX]
  ·rw[if_neg h,if_neg QX]
theorem xI (P:List Int)(k m:Nat)(hm:m<k)(hk:k<=P.length):((gK P k).flatMap encI)[m]? =some (.int .i64 ((depL P m:Nat):Int)):=by rw[iy];unfold gK;rw[List.map_map,iQ _ _ _ QX];show some (Value.int .i64 (if m<k then _ else _))=_;rw[if_pos hm]
theorem ue (w:World) (v:Value) (P:List Int) (h:RdL w v 1 encI P) (ht:dN P=true) (h32:P.length<=1000):
    Calls Tryz.prog 84 #[v] w λe w'=>∃v',e= .returned v'/\w'.ownsRow w.heap.size 3 1 v' (ph P).length ((ph P).flatMap encI)/\Below w.heap.size w w':=by
  obtain⟨i0,hi,hz0,hz1,hz2⟩:=info_parts Tryz.infoIn;obtain⟨A,cap,rfl,l1,l2,hr⟩:=h;have HR:=qh hr;have HT:=qh ht;clear hr ht;go_enter Tryz.func84,Tryz.ntmps84;go_wp2_with (refine wpList_make_full _ rfl (.tmp 7) (.tmp 7) 22 rfl w.heap.size 3 i0 (.int .i64 0) 1 Tryz.underlying22 hi hz0 hz1 .i64 .i64 P.length P.length P.length rfl rfl rfl rfl ?b2 ?b3 (Nat.le_refl _) ?_);case b2=>rw[hz2];omega
  case b3=>unfold maxLen;omega
  intro w1 hown hg;have hown1:w1.ownsRow w.heap.size 3 1 (.slice (some ⟨w.heap.size,0,none⟩) P.length P.length) P.length ((gK P 0).flatMap encI):=by have e:(madeCells #[Value.int .i64 0] P.length).toList=(gK P 0).flatMap encI:=(by rw[kw,iy];unfold gK;rw[List.map_map];exact List.map_congr_left λi _=>rfl);rw[e]at hown;exact hown
  have hb1:Below w.heap.size w w1:=(Below.refl w.heap.size w).grown hg (Nat.le_refl _) (λj hj=>by cases hj);clear hown hg hi hz0 hz1 hz2;go_wp2;go_loopw [11] (λi wr=>∃k:Nat,i= .int .i64 k/\k<=P.length/\wr.ownsRow w.heap.size 3 1 (.slice (some ⟨w.heap.size,0,none⟩) P.length P.length) P.length ((gK P k).flatMap encI)/\Below w.heap.size w wr) (λi _=>P.length-(intOf i).toNat);case atStart=>exact⟨0,rfl,by omega,hown1,hb1⟩
  case round=>
    clear hown1 hb1;obtain⟨k,rfl,hk,hown,hbel⟩:=hrel;by_cases hlt:k<P.length
    · obtain⟨bl,off,rfl,hbl,hc⟩:=HR.o QX;obtain⟨p,hp⟩:=aj hlt;have c0:=(hbel.cell (p:=⟨bl,off+k*1+0,none⟩) hbl).trans (hc k p hp 0 _ rfl);simp only[Nat.add_zero,Nat.mul_one]at c0;have hpl:=gx HT.o hp;have hds:=Ir HT.o hp;have hdb:=Ck P p;have HP:=qh hp;clear hc hp;have f0:=hown.frozenAt k;have g0:=hown.cellAt k QX;have hgl:=(hown.lt _ rfl).2;obtain⟨u,hu⟩:∃u,((gK P k).flatMap encI)[k]? =some u:=by rw[iy];unfold gK;rw[List.map_map,iQ _ _ _ QX];exact⟨_,rfl⟩
      rw[hu]at g0;clear hu;have hne:bl≠w.heap.size:=(by omega);by_cases h0:0<=p
      · rw[if_pos h0]at hds;obtain⟨m,rfl⟩:=Int.eq_ofNat_of_zero_le h0;have g1:=hown.cellAt m QX;rw[xI P k m QX hk]at g1;have hst:=(hown.stored k (.int .i64 1)).1.stored k (.int .i64 (((depL P m:Nat):Int)+1));have HN:=qh (pF P k (((depL P m:Nat):Int)+1) (by rw[hds];omega));have HB:=qh (And.intro hst hbel);clear hst hbel hown hds;go_wp2;go_roundw;case rel=>exact⟨k+1,by go_num,by omega,by have:=HB.o.1.1;rw[List.set_set,HN.o]at this;exact this,(HB.o.2.setCell (Nat.le_refl _) _).setCell (Nat.le_refl _) _⟩
        case measure=>simp[intOf];omega
      · rw[if_neg h0]at hds;have hst:=hown.stored k (.int .i64 1);have HN:=qh (pF P k 1 (by rw[hds];rfl));have HB:=qh (And.intro hst hbel);clear hst hbel hown hds;go_wp2;go_roundw;case rel=>exact⟨k+1,by go_num,by omega,by have:=HB.o.1.1;rw[HN.o]at this;exact this,HB.o.2.setCell (Nat.le_refl _) _⟩
        case measure=>simp[intOf];omega
    · obtain rfl:k=P.length:=by omega
      have HB:=qh (And.intro hown hbel);clear hown hbel;go_wp2;go_ret;exact⟨_,rfl,by rw[<-xH,xJ];exact HB.o.1,HB.o.2⟩
end
section
open Go.RowKit
def evL (P:List Int)(l:List Int):Bool:=l.all λv=>decide (depL P v=depL P (l.headD 0)/\depL P v<=5)
theorem rU (P:List Int):ke P=evL P (ab P):=rfl
theorem rR (P:List Int)(l:List Int)(x:Int):evL P (l++[x])=(evL P l&&decide (depL P x=depL P ((l++[x]).headD 0)/\depL P x<=5)):=by
 unfold evL;rw[List.all_append];cases l with
 |nil=>simp
 |cons a l=>simp
theorem tQ (P:List Int)(l m:List Int)(h:evL P (l++m)=true):evL P l=true:=by
 unfold evL at *;rw[List.all_append,Bool.and_eq_true]at h;cases l with
 |nil=>rfl
 |cons a l=>exact h.1
theorem vz{P:List Int}{l m:List Int}(h:evL P l=false):evL P (l++m)=false:=by
 cases he:evL P (l++m);·rfl
 ·rw[tQ P l m he]at h;cases h
theorem jh (P:List Int)(k:Nat):∀m,∃r,ai P (k+m)=ai P k++r
 |0=>⟨[],by simp⟩
 |m+1=>by
  obtain⟨r,hr⟩:=jh P k m;rw[<-Nat.add_assoc,cj];split;·exact⟨r++[((k+m:Nat):Int)],by rw[hr,List.append_assoc]⟩
  ·exact⟨r,hr⟩
theorem pf (P:List Int){k:Nat}(h:k<=P.length):∃r,ab P=ai P k++r:=by obtain⟨r,hr⟩:=jh P k (P.length-k);exact⟨r,by rw[<-hr];unfold ab;congr 1;omega⟩
theorem zL{P:List Int}{k:Nat}(h:k<=P.length)(hb:evL P (ai P k)=false):ke P=false:=by obtain⟨r,hr⟩:=pf P h;rw[rU,hr];exact vz hb
theorem nB{P:List Int}{k:Nat}(h:k<P.length):1<=depL P k:=by unfold depL;obtain⟨n,hn⟩:∃n,P.length=n+1:=⟨P.length-1,by omega⟩;rw[hn];unfold dep;rw[if_pos QX];omega
def first (P:List Int)(k:Nat):Nat:=if ai P k=[]then 0 else depL P ((ai P k).headD 0)
theorem tT{P:List Int}{k:Nat}(h:da P k=false):first P (k+1)=first P k:=by unfold first;rw[cj,h];rfl
theorem i7{P:List Int}{v:Int}(h:da P v=true):0<=v/\v<P.length/\v∉P:=by simpa[da]using h
theorem gr{P:List Int}{k:Nat}{v:Int}(h:v∈ai P k):da P v=true/\0<=v/\v<k:=by unfold ai at h;rw[List.mem_filter,List.mem_map]at h;obtain⟨⟨a,ha,rfl⟩,h2⟩:=h;have:=List.mem_range.1 ha;exact⟨h2,by show(0:Int)<=(a:Int);omega,by show((a:Nat):Int)<k;omega⟩
theorem xx{P:List Int}{k:Nat}(hk:k<=P.length)(h:ai P k≠[]):1<=first P k:=by
 unfold first
 rw[if_neg h];cases hl:ai P k with
 |nil=>exact absurd hl h
 |cons a l=>have:=(gr (P:=P) (k:=k) (v:=a) (by rw[hl];simp)).2;obtain⟨n,rfl⟩:=Int.eq_ofNat_of_zero_le this.1;show 1<=depL P (n:Int);exact nB QX
theorem tU {P:List Int} {k:Nat} (hk:k<P.length) (h:da P k=true):
    first P (k+1)=(if first P k=0 then depL P k else first P k)/\
    evL P (ai P (k+1))=(evL P (ai P k)&&decide (depL P k=first P (k+1)/\depL P k<=5)):=by
  have e:ai P (k+1)=ai P k++[(k:Int)]:=by rw[cj,if_pos h]
  have e2:first P (k+1)=depL P ((ai P k++[(k:Int)]).headD 0):=by unfold first;rw[e,if_neg QY]
  refine⟨?_,by rw[e,rR,e2]⟩;by_cases hn:ai P k=[];· have:first P k=0:=(by unfold first;rw[if_pos hn]);rw[if_pos this,e2,hn];rfl
  · have:=xx QX hn;rw[if_neg QX,e2];unfold first
    rw[if_neg hn];cases hl:ai P k with
    | nil=>exact absurd hl hn
    | cons a l=>rfl
theorem Du (P T:List Int):T.any (λx=>!decide (x∈ab P))=!thrB P T:=by
 unfold thrB;rw[List.not_all_eq_any_not];congr 1;funext x;congr 1;cases h:da P x;·exact decide_eq_false λhm=>by rw[fz.1 hm]at h;cases h
 ·exact decide_eq_true (fz.2 h)
theorem aR{P T:List Int}(h:a5 P T=0):ju P T=false/\dN P=true/\ke P=true/\thrB P T=true:=by
 unfold a5 at h;cases h1:ju P T
 ·cases h2:dN P;·rw[h1,h2]at h;simp at h
  ·cases h3:ke P;·rw[h1,h2,h3]at h;simp at h
   ·cases h4:thrB P T;·rw[h1,h2,h3,h4]at h;simp at h
    ·exact⟨rfl,rfl,rfl,rfl⟩
 ·rw[h1]at h;simp at h
theorem bh{P T:List Int}(h:ju P T=false):1<=P.length/\P.length<=32/\1<=T.length/\T.length<=32:=by simp only[ju,decide_eq_false_iff_not]at h;omega
theorem jc{P T:List Int}(h:thrB P T=true){i:Nat}{x:Int}(hi:T[i]? =some x):x∈ab P:=by unfold thrB at h;rw[List.all_eq_true]at h;exact fz.2 (h x (List.mem_of_getElem? hi))
def i3 (P T:List Int):Int:=if a5 P T=0 then((depL P ((ab P).headD 0):Nat):Int)else 0
theorem Cl{P T:List Int}(h:a5 P T=0){v:Int}(hv:v∈ab P):((depL P v:Nat):Int)=i3 P T:=by obtain⟨_,_,h3,_⟩:=aR h;unfold i3;rw[if_pos h];unfold ke at h3;rw[List.all_eq_true]at h3;have:=h3 v hv;simp only[decide_eq_true_eq]at this;rw[this.1]
def si (P T:List Int):List Int:=if a5 P T=0 then ab P else[]
end
section
open Go.RowKit
theorem bQ{α:Type}{enc:α->List Value}{sz:Nat}{w:World}{v:Value}{l:List α}(h:RdL w v sz enc l):∃A c,v= .slice A l.length c/\l.length<=c/\l.length<=140737488355328:=by obtain⟨A,c,h1,h2,h3,_⟩:=h;exact⟨A,c,h1,h2,h3⟩
theorem fM {w:World} {A:Option Addr} {n c:Nat} {l:List Int} (h:RdL w (.slice A n c) 1 encI l) (hl:0<l.length):
    ∃b off,A=some ⟨b,off,none⟩/\b<w.heap.size/\∀i x,l[i]? =some x->w.cell? ⟨b,off+i,none⟩=some (.int .i64 x):=by obtain⟨A',c',e,h1,h2,h3⟩:=h;injection e with e1 e2 e3;subst e1;obtain⟨b,off,q1,q2,q3⟩:=h3 hl;refine⟨b,off,q1,q2,λi x hx=>?_⟩;have:=q3 i x hx 0 _ rfl;simpa using this
theorem fU{P T:List Int}(h:ju P T=true):a5 P T=8:=by unfold a5;rw[if_pos h]
theorem kE{P T:List Int}(h:ju P T=false)(h2:dN P=false):a5 P T=9:=by unfold a5;rw[h,h2];rfl
theorem m7{P T:List Int}(h:ju P T=false)(h2:dN P=true)(h3:ke P=false):a5 P T=9:=by unfold a5;rw[h,h2,h3];rfl
theorem vp{P T:List Int}(h:ju P T=false)(h2:dN P=true)(h3:ke P=true):a5 P T=if thrB P T then 0 else 4:=by unfold a5;rw[h,h2,h3];cases thrB P T<;>rfl
theorem vK{P:List Int}{v:Int}(h0:0<=v)(h:v<P.length):(ph P)[v.toNat]? =some ((depL P v:Nat):Int):=by unfold ph;rw[iQ _ _ _ QX];congr 3;omega
theorem iP{w w':World}{base:Nat}{e:TypeId}{sz:Nat}{v:Value}{n:Nat}{xs:List Value}(h:w.ownsRow base e sz v n xs)(k:Below w.heap.size w w'):w'.ownsRow base e sz v n xs:=
 aa.own h (aa.of_below (S:=[]) k) (λ_ _=>by simp)
theorem mK{w:World}{base:Nat}{e:TypeId}{sz:Nat}{v:Value}{n:Nat}{xs:List Value}(h:w.ownsRow base e sz v n xs)(g:Nat)(u:Value)(hg:∀b,v.ownBlock=some b->b≠g):(w.setCell ⟨g,0,none⟩ u).ownsRow base e sz v n xs:=
 aa.own h (aa.setCell (aa.refl [g] w) (.inl QY) u) (λb hb=>by simpa using hg b hb)
theorem rx{W w1:World}(hb:Below W.heap.size W w1):(∀b o,b<W.heap.size->w1.cell? ⟨b,o,none⟩=W.cell? ⟨b,o,none⟩)/\(∀b o,b<W.heap.size->w1.frozen? ⟨b,o,none⟩=W.frozen? ⟨b,o,none⟩):=
 ⟨λb o h=>hb.cell (p:=⟨b,o,none⟩) h,λb o h=>hb.frozen (p:=⟨b,o,none⟩) h⟩
theorem jT (w:World) (vP vT:Value) (P T:List Int) (hP:RdL w vP 1 encI P) (hT:RdL w vT 1 encI T):
    Calls Tryz.prog 42 #[.agg #[vP,vT]] w λe w'=>e= .returned (.int .i64 (a5 P T))/\Below w.heap.size w w':=by
  have HP:=qh hP;have HT:=qh hT;obtain⟨AP,cP,rfl,lP1,lP2⟩:=bQ hP;obtain⟨AT,cT,rfl,lT1,lT2⟩:=bQ hT;clear hP hT;have hb0:Below w.heap.size w (w.alloc (.cells #[.slice AP P.length cP,.slice AT T.length cT] 24)):=(Below.refl _ _).alloc (Nat.le_refl _) _;have HB0:=qh hb0;clear hb0;go_enter Tryz.func42,Tryz.ntmps42;go_upto_region 1 with fail;go_quiet (fail);have c0:((w.alloc (.cells #[.slice AP P.length cP,.slice AT T.length cT] 24)).drewN nq).cell? w.heap.size=some (.slice AP P.length cP):=by simp[World.cell?_alloc_new]
  have c1:((w.alloc (.cells #[.slice AP P.length cP,.slice AT T.length cT] 24)).drewN nq).cell? ⟨w.heap.size,1,none⟩=some (.slice AT T.length cT):=by simp[World.cell?_alloc_new]
  have hsz:w.heap.size+1<=((w.alloc (.cells #[.slice AP P.length cP,.slice AT T.length cT] 24)).drewN nq).heap.size:=by simp[World.drewN]
  have hbb:=cE HB0.o nq;clear HB0;generalize ((w.alloc (.cells #[.slice AP P.length cP,.slice AT T.length cT] 24)).drewN nq)=wb at *;have HB:=qh hbb;have HC:=qh (And.intro c0 c1);have HPb:=qh (HP.o.below hbb (Nat.le_refl _));have HTb:=qh (HT.o.below hbb (Nat.le_refl _));clear hbb HP HT;by_cases a1:P.length<1;· have HE:=qh (fU (P:=P) (T:=T) (decide_eq_true (.inl a1)));go_wp2;go_ret;exact⟨aT HE.o.symm,HB.o⟩
  by_cases a2:32<P.length;· have HE:=qh (fU (P:=P) (T:=T) (decide_eq_true (.inr (.inl a2))));go_wp2;go_ret;exact⟨aT HE.o.symm,HB.o⟩
  by_cases a3:T.length<1;· have HE:=qh (fU (P:=P) (T:=T) (decide_eq_true (.inr (.inr (.inl a3)))));go_wp2;go_ret;exact⟨aT HE.o.symm,HB.o⟩
  by_cases a4:32<T.length;· have HE:=qh (fU (P:=P) (T:=T) (decide_eq_true (.inr (.inr (.inr a4)))));go_wp2;go_ret;exact⟨aT HE.o.symm,HB.o⟩
  have HM:=qh (show ju P T=false from decide_eq_false QX);cases htr:dN P;· have HE:=qh (kE HM.o htr);have HQ:=qh (sY wb _ P HPb.o);rw[htr]at HQ;clear htr;go_wp2_with (go_at_call 82;refine HQ.o.mono ?_;rintro e w' ⟨rfl,rfl⟩);go_ret;exact⟨aT HE.o.symm,HB.o⟩
  have HQ:=qh (sY wb _ P HPb.o);rw[htr]at HQ;have HTR:=qh htr;clear htr;have bd:Below wb.heap.size wb wb.drew:=(Below.refl _ _).drew;go_upto_region 4 with fail;go_wp2_with (go_at_call 82;refine HQ.o.mono ?_;rintro e w' ⟨rfl,rfl⟩);go_cut [5,6] (λs5 s6 wx=>∃g v5,s5= .pointer (some ⟨g,0,none⟩)/\wb.heap.size<=g/\wx.cell? ⟨g,0,none⟩=some v5/\wx.ownsRow wb.heap.size 3 1 v5 (ab P).length ((ab P).flatMap encI)/\wx.ownsRow wb.heap.size 3 1 s6 (ph P).length ((ph P).flatMap encI)/\Below wb.heap.size wb wx)
  case first=>
    go_region_held3 (λW=>W.cell? w.heap.size=some (.slice AP P.length cP))
      (first|exact c0|exact(bd.cell (p:=w.heap.size) (show w.heap.size<wb.heap.size by omega)).trans c0|exact(k3.cell (p:=w.heap.size) (show w.heap.size<wb.heap.size by omega)).trans c0|exact(k2.cell (p:=w.heap.size) (show w.heap.size<wb.heap.size by omega)).trans c0|exact((k2.alloc k2.size _).cell (p:=w.heap.size) (show w.heap.size<wb.heap.size by omega)).trans c0|exact(((Below.refl wb.heap.size wb).alloc (Nat.le_refl _) _).cell (p:=w.heap.size) (show w.heap.size<wb.heap.size by omega)).trans c0|exact((((Below.refl wb.heap.size wb).alloc (Nat.le_refl _) _).drew).cell (p:=w.heap.size) (show w.heap.size<wb.heap.size by omega)).trans c0|exact((k3.setCell (by first|exact k2.size|exact Nat.le_refl _) _).cell (p:=w.heap.size) (show w.heap.size<wb.heap.size by omega)).trans c0|exact((k3.alloc k3.size _).cell (p:=w.heap.size) (show w.heap.size<wb.heap.size by omega)).trans c0|(simp[*];done))
      (first
        | (go_at_call 83;go_loud (refine(nQ _ _ P (HPb.o.below (B:=wb.heap.size) (by first|exact bd|exact bd.alloc (Nat.le_refl _) _) (Nat.le_refl _)) HTR.o QX).mono ?_);rintro e w2 ⟨v2,rfl,o2,b2⟩;obtain⟨A2,c2,rfl⟩:=bO o2;(have k2:Below wb.heap.size wb w2:=(by first|exact bd.trans (b2.mono QY)|exact(bd.alloc (Nat.le_refl _) _).trans (b2.mono QY)));have hc2:=(rx b2).1;have hf2:=(rx b2).2;have O2:=qh o2;(first|have hz2:wb.heap.size<w2.heap.size:=(by have:=b2.size;simp at this;omega)|have hz2:=k2.size))
        | (go_at_call 84;go_loud (refine(ue _ _ P (HPb.o.below (B:=wb.heap.size) (by first|exact k2|exact k2.alloc k2.size _|exact k2.setCell QY _|exact(k2.alloc k2.size _).setCell QY _) (Nat.le_refl _)) HTR.o QX).mono ?_);rintro e w3 ⟨v3,rfl,o3,b3⟩;have hc3:=(rx b3).1;have hf3:=(rx b3).2;have O3:=qh o3;(have k3:Below wb.heap.size wb w3:=(by first|exact k2.trans (b3.mono k2.size)|exact(k2.alloc k2.size _).trans (b3.mono (by simp;have:=k2.size;omega))))))
    · have hs3:=b3.size;have e2:=cW ((iP O2.o b3).alloc (.cells #[.slice A2 (ab P).length c2] 22)) (b':=wb.heap.size) QY;have e3:=cW (O3.o.alloc (.cells #[.slice A2 (ab P).length c2] 22)) (b':=wb.heap.size) k2.size;have e4:=(k2.trans (b3.mono k2.size)).alloc (Nat.le_trans k2.size b3.size) (.cells #[.slice A2 (ab P).length c2] 22);have HH:=qh (And.intro e2 (And.intro e3 e4));clear e2 e3 e4;go_wp2_with fail;go_meet;case rel=>exact⟨_,_,rfl,Nat.le_trans k2.size hs3,by simp[World.cell?_alloc_new],HH.o.1,HH.o.2.1,HH.o.2.2⟩
    · have hs3:=b3.size;have e2:=cW (mK (iP (O2.o.alloc (.cells #[.slice none 0 0] 22)) b3) w2.heap.size (.slice A2 (ab P).length c2) (λb hb=>by have:=(O2.o.lt b hb).2;omega)) (b':=wb.heap.size) QY;have e3:=cW (mK O3.o w2.heap.size (.slice A2 (ab P).length c2) (λb hb=>by have:=(O3.o.lt b hb).1;simp at this;omega)) (b':=wb.heap.size) (by simp;have:=k2.size;omega);have e4:=((k2.alloc k2.size (.cells #[.slice none 0 0] 22)).trans (b3.mono (by simp;have:=k2.size;omega))).setCell (p:=w2.heap.size) k2.size (.slice A2 (ab P).length c2);have HH:=qh (And.intro e2 (And.intro e3 e4));clear e2 e3 e4;go_wp2_with fail;go_meet;case rel=>exact⟨_,_,rfl,k2.size,World.cell?_setCell_same (u:= .slice none 0 0) _ _ _ (by rw[hc3 _ _ QY];simp[World.cell?_alloc_new]),HH.o.1,HH.o.2.1,HH.o.2.2⟩
    · have hs3:=b3.size;have e2:=cW (mK (iP O2.o b3) wb.heap.size (.slice A2 (ab P).length c2) (λb hb=>by have:=(O2.o.lt b hb).1;simp at this;omega)) (b':=wb.heap.size) QY;have e3:=cW (mK O3.o wb.heap.size (.slice A2 (ab P).length c2) (λb hb=>by have:=(O3.o.lt b hb).1;omega)) (b':=wb.heap.size) k2.size;have e4:=(k2.trans (b3.mono k2.size)).setCell (p:=wb.heap.size) (Nat.le_refl _) (.slice A2 (ab P).length c2);have HH:=qh (And.intro e2 (And.intro e3 e4));clear e2 e3 e4;go_wp2_with fail;go_meet;case rel=>exact⟨_,_,rfl,Nat.le_refl _,World.cell?_setCell_same (u:= .slice none 0 0) _ _ _ (by rw[hc3 _ _ QX,hc2 _ _ QY];simp[World.cell?_alloc_new]),HH.o.1,HH.o.2.1,HH.o.2.2⟩
  case rest=>
    clear HPb HQ bd c0 c1;obtain⟨g,v5,rfl,hg,hg5,o5,o6,bc⟩:=hcut;have hll:=aZ P P.length;have hl5:(ab P).length<=32:=(by show(ai P P.length).length<=_;omega);have hl6:(ph P).length=P.length:=(by simp[ph]);have R5:=dH o5 QX;have R6:=dH o6 QX;have HR5:=qh R5;obtain⟨A5,c5,rfl,k5,_⟩:=bQ R5;obtain⟨A6,c6,rfl,k6,_⟩:=bQ R6;have f0:=(bc.cell (p:=w.heap.size) (show w.heap.size<wb.heap.size by omega)).trans HC.o.1;have f1:=(bc.cell (p:=⟨w.heap.size,1,none⟩) (show w.heap.size<wb.heap.size by omega)).trans HC.o.2;have HTc:=qh (HTb.o.below bc (Nat.le_refl _));have HBc:=qh (HB.o.trans (bc.mono HB.o.size));have H56:=qh (And.intro R5 R6);clear R5 R6 o5 o6 bc HTb HB HC;go_wp2;go_loopw [41] (λi wr=>∃j m:Nat,i= .int .i64 j/\j<=(ab P).length/\evL P ((ab P).take j)=true/\wr=wc.drewN m) (λi _=>(ab P).length-(intOf i).toNat);case atStart=>exact⟨0,0,rfl,by omega,rfl,rfl⟩
    case round=>
      obtain⟨j,mm,rfl,hj,hev,rfl⟩:=hrel;by_cases hjl:j<(ab P).length
      · obtain⟨b5,off5,hA5,hb5,hc5⟩:=fM H56.o.1 QX;obtain⟨b6,off6,hA6,hb6,hc6⟩:=fM H56.o.2 (by rw[hl6];omega);subst hA5 hA6;obtain⟨x,hx⟩:=aj hjl;obtain⟨y,hy⟩:=aj (show 0<(ab P).length by omega);have hxl:=gr (P:=P) (k:=P.length) (List.mem_of_getElem? hx);have hyl:=gr (P:=P) (k:=P.length) (List.mem_of_getElem? hy);obtain⟨x,rfl⟩:=Int.eq_ofNat_of_zero_le hxl.2.1;obtain⟨y,rfl⟩:=Int.eq_ofNat_of_zero_le hyl.2.1;have q1:=hc5 j _ hx;have q2:=hc5 0 _ hy;have q3:=hc6 x _ (by have:=vK (P:=P) hxl.2.1 hxl.2.2;simpa using this);have q4:=hc6 y _ (by have:=vK (P:=P) hyl.2.1 hyl.2.2;simpa using this);simp only[Nat.add_zero]at q2;have hx32:x<P.length:=(by have:=hxl.2.2;omega);have hy32:y<P.length:=(by have:=hyl.2.2;omega);have htk:(ab P).take (j+1)=(ab P).take j++[(x:Int)]:=dg hx
        have hhd:((ab P).take j++[(x:Int)]).headD 0=(y:Int):=by
          rw[<-htk];cases hl:ab P with
          | nil=>rw[hl]at hy;cases hy
          | cons a l=>rw[hl]at hy;simp at hy;simp[hy]
        have hev2:=rR P ((ab P).take j) x;rw[hev,Bool.true_and,hhd,<-htk]at hev2;obtain⟨d,hd⟩:∃d:Int,d=((depL P x:Nat):Int):=⟨_,rfl⟩;obtain⟨d0,hd0⟩:∃d:Int,d=((depL P y:Nat):Int):=⟨_,rfl⟩;rw[<-hd]at q3;rw[<-hd0]at q4;have HV:=qh (And.intro hev2 (And.intro hd hd0));have hbd:evL P ((ab P).take (j+1))=false->ke P=false:=λh=>by have:=vz (m:=(ab P).drop (j+1)) h;rwa [List.take_append_drop]at this
        have HBD:=qh hbd;clear hx hy hxl hyl htk hhd hev2 hd hd0 hev hc5 hc6 hbd;cases e1:(d !=d0)
        · cases e2:decide (5<d)
          · have HN:=qh (show evL P ((ab P).take (j+1))=true from by
              rw[HV.o.1];have:=HV.o.2;simp only[bne_eq_false_iff_eq,decide_eq_false_iff_not]at e1 e2
              exact decide_eq_true QX)
            go_wp2_with fail;go_quiet (fail);go_wp2;go_roundw;case rel=>exact⟨j+1,_,by go_num,by omega,HN.o,rfl⟩
            case measure=>simp[intOf];omega
          · have HN:=qh (m7 (T:=T) HM.o HTR.o (HBD.o (by
              rw[HV.o.1];have:=HV.o.2;simp only[decide_eq_true_eq]at e2
              exact decide_eq_false QX)))
            go_wp2_with fail;go_quiet (fail);go_wp2;go_ret;exact⟨aT HN.o.symm,cE (cE HBc.o _) _⟩
        · have HN:=qh (m7 (T:=T) HM.o HTR.o (HBD.o (by
            rw[HV.o.1];have:=HV.o.2;simp only[bne_iff_ne]at e1
            exact decide_eq_false QX)))
          go_wp2_with fail;go_quiet (fail);go_wp2;go_ret;exact⟨aT HN.o.symm,cE (cE HBc.o _) _⟩
      · obtain rfl:j=(ab P).length:=by omega
        rw[List.take_length,<-rU]at hev;have HN:=qh (vp (T:=T) HM.o HTR.o hev);have hcf:=lz (wc.drewN mm) g _ _ (ab P) T (show(wc.drewN mm).cell? ⟨g,0,none⟩=_ from hg5) (H56.o.1.drewN mm) (HTc.o.drewN mm);rw[Du]at hcf;clear hev;cases hth:thrB P T;· rw[hth]at hcf HN;have HC:=qh hcf;clear hcf hth;go_wp2_with (go_at_call 85;refine HC.o.mono ?_;rintro e w' ⟨rfl,rfl⟩);go_ret;exact⟨aT HN.o.symm,cE HBc.o _⟩
        · rw[hth]at hcf HN;have HC:=qh hcf;clear hcf hth;go_wp2_with (go_at_call 85;refine HC.o.mono ?_;rintro e w' ⟨rfl,rfl⟩);go_ret;exact⟨aT HN.o.symm,cE HBc.o _⟩
theorem sX (w:World) (vP vT:Value) (P T:List Int) (hP:RdL w vP 1 encI P) (hT:RdL w vT 1 encI T):
    Calls Tryz.prog 185 #[.agg #[vP,vT]] w λe w'=>∃v,e= .returned v/\w'.ownsRow w.heap.size 3 1 v (si P T).length ((si P T).flatMap encI)/\Below w.heap.size w w':=by
  have hb0:Below w.heap.size w (w.alloc (.cells #[vP,vT] 24)):=(Below.refl _ _).alloc (Nat.le_refl _) _;have HC:=qh (jT (w.alloc (.cells #[vP,vT] 24)) vP vT P T (hP.alloc _) (hT.alloc _));have HP:=qh hP;have HB0:=qh hb0;obtain⟨AP,cP,rfl,lP1,lP2⟩:=bQ hP;obtain⟨AT,cT,rfl,lT1,lT2⟩:=bQ hT;clear hP hT hb0;go_enter Tryz.func185,Tryz.ntmps185;by_cases hc:a5 P T=0;· have HL:=qh (show si P T=ab P from by unfold si;rw[if_pos hc]);obtain⟨hm,ht,_,_⟩:=aR hc;have hml:=bh hm;have HT:=qh ht;rw[hc]at HC;clear hc hm ht;go_wp2_with fail;refine HC.o.mono ?_;rintro en w1 ⟨rfl,b1⟩;have hc1:=(rx b1).1;have hs1:=b1.size;simp at hs1;have HB1:=qh (HB0.o.trans (b1.mono HB0.o.size));clear b1;go_wp2_with fail;refine(nQ _ _ P (HP.o.below HB1.o (Nat.le_refl _)) HT.o QX).mono ?_;rintro en w2 ⟨v2,rfl,o2,b2⟩;have HO:=qh (And.intro o2 b2);clear o2 b2;go_wp2;go_ret;exact⟨_,rfl,by rw[HL.o];exact cW HO.o.1 QX,HB1.o.trans (HO.o.2.mono QX)⟩
  · have HL:=qh (show si P T=[]from by unfold si;rw[if_neg hc]);obtain⟨z,hz⟩:∃z,z=a5 P T:=⟨_,rfl⟩;rw[<-hz]at HC hc;have hz0:(z !=0)=true:=(by simpa using hc);clear hc hz;go_wp2_with fail;refine HC.o.mono ?_;rintro en w1 ⟨rfl,b1⟩;have HB1:=qh (HB0.o.trans (b1.mono HB0.o.size));clear b1;go_wp2;go_ret;exact⟨_,rfl,by rw[HL.o];exact World.ownsRow_nil _ _ _ _,HB1.o⟩
end
section
open Go.RowKit
theorem CK (w:World) (v:Value) (l:List Int) (x:Int) (h:RdL w v 1 encI l):
    Calls Tryz.prog 134 #[v,.int .i64 x] w λe w'=>e= .returned (.bool (decide (x∈l)))/\w=w':=by
  obtain⟨A,cap,rfl,l1,l2,hr⟩:=h;have HR:=qh hr;clear hr;go_enter Tryz.func134,Tryz.ntmps134;go_wp2;go_loop [5] (λi=>∃k:Nat,i= .int .i64 k/\k<=l.length/\x∉l.take k) (λi=>l.length-(intOf i).toNat);case atStart=>exact⟨0,rfl,by omega,by simp⟩
  case round=>
    obtain⟨k,rfl,hk,hn⟩:=hrel;by_cases hlt:k<l.length
    · obtain⟨bl,off,rfl,hbl,hc⟩:=HR.o QX;obtain⟨y,hy⟩:=aj hlt;have c0:=hc k y hy 0 _ rfl;simp only[Nat.add_zero,Nat.mul_one]at c0;have HY:=qh (And.intro hy hn);clear hc hy hn;cases hxy:(y==x)
      · have hne:Kq (x∉l.take (k+1)):=qh (by
          rw[iH HY.o.1];rintro(h|h);· exact HY.o.2 h
          · rw[h]at hxy;simp at hxy)
        go_wp2;go_round;case rel=>exact⟨k+1,by go_num,by omega,hne.o⟩
        case measure=>simp[intOf];omega
      · have hid:Kq (x∈l):=qh (by rw[<-beq_iff_eq.1 hxy];exact List.mem_of_getElem? HY.o.1);go_wp2;go_ret;exact⟨az (decide_eq_true hid.o).symm,rfl⟩
    · obtain rfl:k=l.length:=by omega
      rw[List.take_length]at hn;have hid:Kq (x∉l):=qh hn;clear hn;go_wp2;go_ret;exact⟨az (decide_eq_false hid.o).symm,rfl⟩
theorem pP (w:World) (v:Value) (P:List Int) (x:Int) (h:RdL w v 1 encI P):
    Calls Tryz.prog 101 #[v,.int .i64 x] w λe w'=>e= .returned (.bool (da P x))/\w=w':=by
  have HH:=qh (CK w v P x h);obtain⟨A,cap,rfl,l1,l2,hr⟩:=h;clear hr
  have HL:=qh (show da P x=(decide (0<=x)&&decide (x<P.length)&&!decide (x∈P))from by
    unfold da
    by_cases h1:0<=x<;>by_cases h2:x<P.length<;>by_cases h3:x∈P<;>simp[h1,h2,h3])
  go_enter Tryz.func101,Tryz.ntmps101;cases h1:decide (0<=x);· rw[h1]at HL;have h1':¬0<=x:=of_decide_eq_false h1;go_wp2;go_ret;exact⟨az HL.o.symm,rfl⟩
  · cases h2:decide (x<P.length);· rw[h1,h2]at HL;have h1':0<=x:=of_decide_eq_true h1;have h2':¬x<P.length:=of_decide_eq_false h2;go_wp2;go_ret;exact⟨az HL.o.symm,rfl⟩
    · rw[h1,h2]at HL;have h1':0<=x:=of_decide_eq_true h1;have h2':x<P.length:=of_decide_eq_true h2;cases h3:decide (x∈P);· rw[h3]at HL HH;clear h3;go_wp2_with (go_at_call 134;refine HH.o.mono ?_;rintro e w' ⟨rfl,rfl⟩);go_ret;exact⟨az HL.o.symm,rfl⟩
      · rw[h3]at HL HH;clear h3;go_wp2_with (go_at_call 134;refine HH.o.mono ?_;rintro e w' ⟨rfl,rfl⟩);go_ret;exact⟨az HL.o.symm,rfl⟩
theorem rL{P:List Int}{f:Nat}{v:Int}(h:¬(0<=v/\v<P.length)):dep P f v=0:=by
 cases f with
 |zero=>rfl
 |succ f=>unfold dep;rw[if_neg h]
theorem Ek{P:List Int}{f:Nat}{v p:Int}(h0:0<=v)(hp:P[v.toNat]? =some p):dep P (f+1) v=dep P f p+1:=by have:=(List.getElem?_eq_some_iff.1 hp).1;show(if 0<=v/\v<P.length then dep P f (P.getD v.toNat 0)+1 else 0)=_;rw[if_pos QX,ba hp]
theorem yb (w:World) (v:Value) (P:List Int) (x:Int) (h:RdL w v 1 encI P):
    Calls Tryz.prog 102 #[v,.int .i64 x] w λe w'=>e= .returned (.int .i64 ((depL P x:Nat):Int))/\w=w':=by
  obtain⟨A,cap,rfl,l1,l2,hr⟩:=h;have HR:=qh hr;clear hr;go_enter Tryz.func102,Tryz.ntmps102;go_wp2;go_loop [1,5,6] (λy m i=>∃(k n:Nat) (z:Int),i= .int .i64 k/\m= .int .i64 n/\y= .int .i64 z/\k<=P.length/\n<=k/\n+dep P (P.length-k) z=depL P x) (λ_ _ i=>P.length-(intOf i).toNat);case atStart=>exact⟨0,0,x,rfl,rfl,rfl,by omega,by omega,by simp[depL]⟩
  case round=>
    obtain⟨k,n,z,rfl,rfl,rfl,hk,hn,hd⟩:=hrel;have HD:=qh hd;clear hd;by_cases hlt:k<P.length
    · by_cases h0:0<=z
      · by_cases h1:z<P.length
        · obtain⟨bl,off,rfl,hbl,hc⟩:=HR.o QX;obtain⟨m,rfl⟩:=Int.eq_ofNat_of_zero_le h0;obtain⟨p,hp⟩:=aj (show m<P.length by omega);have c0:=hc m p hp 0 _ rfl;simp only[Nat.add_zero,Nat.mul_one]at c0
          have HN:=qh (show n+1+dep P (P.length-(k+1)) p=depL P x from by
            have:=HD.o;rw[show P.length-k=P.length-(k+1)+1 by omega,Ek QX (by simpa using hp)]at this
            omega)
          clear hc hp;go_wp2;go_round;case rel=>exact⟨k+1,n+1,p,by go_num,by go_num,rfl,by omega,by omega,HN.o⟩
          case measure=>simp[intOf];omega
        · have HE:=qh (show n=depL P x from by have:=HD.o;rw[rL QX]at this;omega);go_wp2;go_ret;exact⟨aT (by rw[HE.o]),rfl⟩
      · have HE:=qh (show n=depL P x from by have:=HD.o;rw[rL QX]at this;omega);go_wp2;go_ret;exact⟨aT (by rw[HE.o]),rfl⟩
    · have HE:=qh (show n=depL P x from by have:=HD.o;rw[show P.length-k=0 by omega]at this;exact this);go_wp2;go_ret;exact⟨aT (by rw[HE.o]),rfl⟩
end
section
open Go.RowKit
theorem uD (w:World) (vP vT:Value) (P T:List Int) (hP:RdL w vP 1 encI P) (hT:RdL w vT 1 encI T):
    Calls Tryz.prog 48 #[.agg #[vP,vT]] w λe w'=>e= .returned (.int .i64 (a5 P T))/\Below w.heap.size w w':=by
  have hb0:Below w.heap.size w (w.alloc (.cells #[vP,vT] 24)):=(Below.refl _ _).alloc (Nat.le_refl _) _;have HB:=qh hb0;have HPb:=qh (hP.alloc (.cells #[vP,vT] 24));have HTb:=qh (hT.alloc (.cells #[vP,vT] 24));obtain⟨AP,cP,rfl,lP1,lP2⟩:=bQ hP;obtain⟨AT,cT,rfl,lT1,lT2⟩:=bQ hT;clear hP hT hb0;have c0:(w.alloc (.cells #[.slice AP P.length cP,.slice AT T.length cT] 24)).cell? w.heap.size=some (.slice AP P.length cP):=by simp[World.cell?_alloc_new]
  have c1:(w.alloc (.cells #[.slice AP P.length cP,.slice AT T.length cT] 24)).cell? ⟨w.heap.size,1,none⟩=some (.slice AT T.length cT):=by simp[World.cell?_alloc_new]
  go_enter Tryz.func48,Tryz.ntmps48;go_upto_region 1 with fail;generalize (w.alloc (.cells #[.slice AP P.length cP,.slice AT T.length cT] 24))=wb at *;by_cases a1:P.length<1;· have HE:=qh (fU (P:=P) (T:=T) (decide_eq_true (.inl a1)));go_wp2;go_ret;exact⟨aT HE.o.symm,HB.o⟩
  by_cases a2:32<P.length;· have HE:=qh (fU (P:=P) (T:=T) (decide_eq_true (.inr (.inl a2))));go_wp2;go_ret;exact⟨aT HE.o.symm,HB.o⟩
  by_cases a3:T.length<1;· have HE:=qh (fU (P:=P) (T:=T) (decide_eq_true (.inr (.inr (.inl a3)))));go_wp2;go_ret;exact⟨aT HE.o.symm,HB.o⟩
  by_cases a4:32<T.length;· have HE:=qh (fU (P:=P) (T:=T) (decide_eq_true (.inr (.inr (.inr a4)))));go_wp2;go_ret;exact⟨aT HE.o.symm,HB.o⟩
  have HM:=qh (show ju P T=false from decide_eq_false QX);have H0:=qh (fM HPb.o QX);obtain⟨p0,hp0⟩:=aj (show 0<P.length by omega);obtain⟨b,off,hA,hb,hc⟩:=H0.o;subst hA;have q0:=hc 0 p0 hp0;simp only[Nat.add_zero]at q0;have HC:=qh hc;have HG0:=qh hp0;clear hc hp0 H0;go_upto_region 3 with fail;by_cases hz:p0= -1
  · subst hz
    have HT1:=qh (show(List.range 1).all (okP P)=true from by
      have:=ba HG0.o;show(okP P 0&&true)=true;rw[Bool.and_true]
      exact decide_eq_true ⟨λ_=>this,λh=>absurd h QX⟩)
    go_wp2;go_loop [3] (λi=>∃k:Nat,i= .int .i64 k/\1<=k/\k<=P.length/\(List.range k).all (okP P)=true) (λi=>P.length-(intOf i).toNat);case atStart=>exact⟨1,rfl,by omega,by omega,HT1.o⟩
    case round=>
      obtain⟨k,rfl,hk1,hk,ha⟩:=hrel;by_cases hlt:k<P.length
      · obtain⟨p,hp⟩:=aj hlt;have q1:=HC.o k p hp;have HP:=qh (And.intro (ba hp) ha);clear hp ha;by_cases g0:p<0;· have HN:=qh (kE HM.o (jR hlt (decide_eq_false (by rw[HP.o.1];omega))));go_wp2;go_ret;exact⟨aT HN.o.symm,HB.o⟩
        · by_cases g1:(k:Int)<=p;· have HN:=qh (kE HM.o (jR hlt (decide_eq_false (by rw[HP.o.1];omega))));go_wp2;go_ret;exact⟨aT HN.o.symm,HB.o⟩
          · have HN:=qh (show(List.range (k+1)).all (okP P)=true from by
              rw[jz,HP.o.2,Bool.true_and]
              exact decide_eq_true (by rw[HP.o.1];omega))
            go_wp2;go_round;case rel=>exact⟨k+1,by go_num,by omega,by omega,HN.o⟩
            case measure=>simp[intOf];omega
      · obtain rfl:k=P.length:=by omega
        have HTR:=qh (show dN P=true from ha);clear ha;go_wp2;go_loop [4,5] (λf i=>∃k:Nat,i= .int .i64 k/\k<=P.length/\f= .int .i64 (first P k:Nat)/\evL P (ai P k)=true) (λ_ i=>P.length-(intOf i).toNat);case atStart=>exact⟨0,rfl,by omega,rfl,rfl⟩
        case round=>
          obtain⟨k,rfl,hk,rfl,hev⟩:=hrel;by_cases hlt:k<P.length
          · have HL:=qh (pP wb _ P k HPb.o);have HEV:=qh hev;clear hev;cases hlf:da P k
            · have HN:=qh (And.intro (tT hlf) (show ai P (k+1)=ai P k from by rw[cj,hlf];rfl));rw[hlf]at HL;clear hlf;go_wp2_with (go_at_call 101;refine HL.o.mono ?_;rintro e w' ⟨rfl,rfl⟩);go_round;case rel=>exact⟨k+1,by go_num,by omega,by rw[HN.o.1],by rw[HN.o.2];exact HEV.o⟩
              case measure=>simp[intOf];omega
            · have hst:=tU hlt hlf;rw[HEV.o,Bool.true_and]at hst;have HD:=qh (yb wb _ P k HPb.o);rw[hlf]at HL;have hpos:=nB hlt;obtain⟨d,hd⟩:∃d,d=depL P k:=⟨_,rfl⟩;obtain⟨f,hf⟩:∃f,f=first P k:=⟨_,rfl⟩
              rw[<-hd]at HD hst hpos;rw[<-hf]at hst ⊢;have HST:=qh (And.intro hst (And.intro hd hf));have hbd:evL P (ai P (k+1))=false->a5 P T=9:=λh=>m7 HM.o HTR.o (zL QX h);have HBD:=qh hbd;clear hst hd hf hbd hlf;by_cases f0:f=0
              · subst f0;by_cases g1:5<d;· have HN:=qh (HBD.o (by rw[HST.o.1.2];exact decide_eq_false QX));go_wp2_with (first|(go_at_call 101;refine HL.o.mono ?_;rintro e w' ⟨rfl,rfl⟩)|(go_at_call 102;refine HD.o.mono ?_;rintro e w' ⟨rfl,rfl⟩));go_ret;exact⟨aT HN.o.symm,HB.o⟩
                · have HF:=qh (show first P (k+1)=d from by rw[HST.o.1.1];rfl);have HN:=qh (show evL P (ai P (k+1))=true from by rw[HST.o.1.2];exact decide_eq_true ⟨by rw[HF.o],by omega⟩);go_wp2_with (first|(go_at_call 101;refine HL.o.mono ?_;rintro e w' ⟨rfl,rfl⟩)|(go_at_call 102;refine HD.o.mono ?_;rintro e w' ⟨rfl,rfl⟩));go_round;case rel=>exact⟨k+1,by go_num,by omega,by rw[HF.o],HN.o⟩
                  case measure=>simp[intOf];omega
              · have HF:=qh (show first P (k+1)=f from by rw[HST.o.1.1,if_neg f0]);have e0:(f==0)=false:=(by simpa using f0);have e0':((f:Int)==0)=false:=(by rw[beq_eq_false_iff_ne];omega);by_cases g0:d=f
                · subst g0;by_cases g1:5<d;· have HN:=qh (HBD.o (by rw[HST.o.1.2];exact decide_eq_false QX));go_wp2_with (first|(go_at_call 101;refine HL.o.mono ?_;rintro e w' ⟨rfl,rfl⟩)|(go_at_call 102;refine HD.o.mono ?_;rintro e w' ⟨rfl,rfl⟩));go_ret;exact⟨aT HN.o.symm,HB.o⟩
                  · have HN:=qh (show evL P (ai P (k+1))=true from by rw[HST.o.1.2];exact decide_eq_true ⟨by rw[HF.o],by omega⟩);go_wp2_with (first|(go_at_call 101;refine HL.o.mono ?_;rintro e w' ⟨rfl,rfl⟩)|(go_at_call 102;refine HD.o.mono ?_;rintro e w' ⟨rfl,rfl⟩));go_round;case rel=>exact⟨k+1,by go_num,by omega,by rw[HF.o],HN.o⟩
                    case measure=>simp[intOf];omega
                · have HN:=qh (HBD.o (by rw[HST.o.1.2];exact decide_eq_false (by rw[HF.o];omega)));have e1:(d !=f)=true:=(by simpa using g0);have e1':((d:Int) !=(f:Int))=true:=(by rw[bne_iff_ne];omega);go_wp2_with (first|(go_at_call 101;refine HL.o.mono ?_;rintro e w' ⟨rfl,rfl⟩)|(go_at_call 102;refine HD.o.mono ?_;rintro e w' ⟨rfl,rfl⟩));go_ret;exact⟨aT HN.o.symm,HB.o⟩
          · obtain rfl:k=P.length:=by omega
            have HEV:=qh (vp (T:=T) HM.o HTR.o hev);have HT0:=qh (fM HTb.o QX);obtain⟨bt,offt,hAt,hbt,hct⟩:=HT0.o;subst hAt;have HCT:=qh hct;clear hct hev HT0;go_wp2;go_loopw [7] (λi wr=>∃j:Nat,i= .int .i64 j/\j<=T.length/\(T.take j).all (da P)=true/\Qt wb wr) (λi _=>T.length-(intOf i).toNat);case atStart=>exact⟨0,rfl,by omega,rfl,Qt.refl _⟩
            case round=>
              obtain⟨j,rfl,hj,ha,hq⟩:=hrel;obtain⟨wq,rfl⟩:∃wq:World,wq=wr:=⟨_,rfl⟩;have d0:wq.cell? w.heap.size=some (.slice (some ⟨b,off,none⟩) P.length cP):=(by obtain⟨n,rfl⟩:=hq;exact c0);have d1:wq.cell? ⟨w.heap.size,1,none⟩=some (.slice (some ⟨bt,offt,none⟩) T.length cT):=(by obtain⟨n,rfl⟩:=hq;exact c1);have HQ:=qh hq;by_cases hlt2:j<T.length
              · obtain⟨x,hx⟩:=aj hlt2;have q2:wq.cell? ⟨bt,offt+j,none⟩=some (.int .i64 x):=(by obtain⟨n,rfl⟩:=hq;exact HCT.o j x hx);have HX:=qh (And.intro hx ha);have HL:=qh (λn=>(pP (wq.drewN n) _ P x ((HPb.o.qt HQ.o).drewN n)).mono λ_ _ h=>And.intro h.1 h.2.symm);clear hx ha hq;cases hlf:da P x
                · have HN:=qh (show a5 P T=4 from by
                    rw[HEV.o,if_neg];intro h;unfold thrB at h;rw[List.all_eq_true]at h;rw[h x (List.mem_of_getElem? HX.o.1)]at hlf
                    cases hlf)
                  rw[hlf]at HL;clear hlf;go_wp2_with fail;go_quiet ((go_at_call 101;exact Calls.quiet_of_same (HL.o _)));go_wp2;go_ret;exact⟨aT HN.o.symm,cE (HB.o.trans ((HQ.o.below _).mono HB.o.size)) _⟩
                · have HN:=qh (show(T.take (j+1)).all (da P)=true from by rw[dg HX.o.1,List.all_append,HX.o.2];simp[hlf]);rw[hlf]at HL;clear hlf;go_wp2_with fail;go_quiet ((go_at_call 101;exact Calls.quiet_of_same (HL.o _)));go_wp2;go_roundw;case rel=>exact⟨j+1,by go_num,by omega,HN.o,HQ.o.trans ⟨_,rfl⟩⟩
                  case measure=>simp[intOf];omega
              · obtain rfl:j=T.length:=by omega
                rw[List.take_length]at ha;have HN:=qh (show a5 P T=0 from by rw[HEV.o,if_pos (show thrB P T=true from ha)]);clear ha hq;go_wp2;go_ret;exact⟨aT HN.o.symm,HB.o.trans ((HQ.o.below _).mono HB.o.size)⟩
  · have HN:=qh (kE (P:=P) HM.o (jR (k:=0) QX (decide_eq_false (by rw[ba HG0.o];omega))));have e1:(p0 != -1)=true:=(by simpa using hz);clear hz;go_wp2;go_ret;exact⟨aT HN.o.symm,HB.o⟩
end
section
open Go.RowKit
theorem ot (b:Int)(w:World)(h0:0<=b)(h1:b<=1000):Calls Tryz.prog 135 #[.int .i64 b] w λe w'=>e= .returned (.bool true)/\w=w':=by
 have HI:Calls Tryz.prog 171 #[.int .i64 b,.int .i64 0,.int .i64 1000] w λe w'=>e= .returned (.bool true)/\w=w':=by go_enter Tryz.func171,Tryz.ntmps171;exact gs
 have H:=qh HI;clear HI;go_enter Tryz.func135,Tryz.ntmps135;go_wp2_with fail;refine H.o.mono ?_;exact hV
def jB (P T:List Int)(m:Int):Bool:=decide (a5 P T=0/\(T.length:Int)<=m)
theorem Bq (w:World) (vP vT:Value) (P T:List Int) (hP:RdL w vP 1 encI P) (hT:RdL w vT 1 encI T) (m:Int):
    Calls Tryz.prog 10 #[.agg #[vP,vT],.int .i64 m] w λe w'=>e= .returned (.bool (jB P T m))/\Below w.heap.size w w':=by
  have HC:=qh (uD (w.alloc (.cells #[vP,vT] 24)) vP vT P T (hP.alloc _) (hT.alloc _));have HB0:=qh ((Below.refl w.heap.size w).alloc (Nat.le_refl _) (.cells #[vP,vT] 24));obtain⟨AP,cP,rfl,lP1,lP2⟩:=bQ hP;obtain⟨AT,cT,rfl,lT1,lT2⟩:=bQ hT;have hX:(w.alloc (.cells #[.slice AP P.length cP,.slice AT T.length cT] 24)).cell? ⟨w.heap.size,1,none⟩=some (.slice AT T.length cT):=by simp[World.cell?_alloc_new]
  have hbx:w.heap.size<(w.alloc (.cells #[.slice AP P.length cP,.slice AT T.length cT] 24)).heap.size:=by simp
  clear hP hT;by_cases hc:a5 P T=0;· have t0:(a5 P T==0)=true:=(by simpa using hc);have HS:Kq (jB P T m=decide ((T.length:Int)<=m)):=qh (by unfold jB;simp[hc]);clear hc;go_enter Tryz.func10,Tryz.ntmps10;go_wp2_with fail;refine HC.o.mono ?_;rintro en w1 ⟨rfl,b1⟩;have f1:=(b1.cell (p:=⟨w.heap.size,1,none⟩) hbx).trans hX;have HB1:=qh (HB0.o.trans (b1.mono HB0.o.size));clear b1 hX hbx;go_wp2;go_ret;rw[HS.o];exact⟨rfl,HB1.o⟩
  · have t0:(a5 P T==0)=false:=(by simpa using hc);have HS:Kq (jB P T m=false):=qh (by unfold jB;simp[hc]);clear hc hX hbx;go_enter Tryz.func10,Tryz.ntmps10;go_wp2_with fail;refine HC.o.mono ?_;rintro en w1 ⟨rfl,b1⟩;have HB1:=qh (HB0.o.trans (b1.mono HB0.o.size));clear b1;go_wp2;go_ret;rw[HS.o];exact⟨rfl,HB1.o⟩
def ri (w:World)(vP vT:Value)(m:Int):Prop:=∀W,Below w.heap.size w W->Calls Tryz.prog 10 #[.agg #[vP,vT],.int .i64 m] W λe w'=>e= .returned (.bool false)/\Below W.heap.size W w'
theorem ri.of{w:World}{vP vT:Value}{P T:List Int}{m:Int}(hP:RdL w vP 1 encI P)(hT:RdL w vT 1 encI T)(hs:jB P T m=false):ri w vP vT m:=λW b=>by
 have:=Bq W vP vT P T (hP.below b (Nat.le_refl _)) (hT.below b (Nat.le_refl _)) m
 rw[hs]at this
 exact this
theorem ri.below{w w':World}{vP vT:Value}{m:Int}(h:ri w vP vT m)(b:Below w.heap.size w w'):ri w' vP vT m:=λW k=>h W (b.trans (k.mono b.size))
theorem uE (w:World) (AP AT:Option Addr) (nP cP nT cT:Nat) (h:32<nP\/32<nT) (h1:nP<=9223372036854775807) (h2:nT<=9223372036854775807):
    Calls Tryz.prog 48 #[.agg #[.slice AP nP cP,.slice AT nT cT]] w λe w'=>e= .returned (.int .i64 8)/\Below w.heap.size w w':=by
  have HB:=qh ((Below.refl w.heap.size w).alloc (Nat.le_refl _) (.cells #[.slice AP nP cP,.slice AT nT cT] 24));have c0:(w.alloc (.cells #[.slice AP nP cP,.slice AT nT cT] 24)).cell? w.heap.size=some (.slice AP nP cP):=by simp[World.cell?_alloc_new]
  have c1:(w.alloc (.cells #[.slice AP nP cP,.slice AT nT cT] 24)).cell? ⟨w.heap.size,1,none⟩=some (.slice AT nT cT):=by simp[World.cell?_alloc_new]
  go_enter Tryz.func48,Tryz.ntmps48;go_upto_region 1 with fail;generalize (w.alloc (.cells #[.slice AP nP cP,.slice AT nT cT] 24))=wb at *;by_cases a1:nP<1;· go_wp2;go_ret;exact⟨rfl,HB.o⟩
  by_cases a2:32<nP;· go_wp2;go_ret;exact⟨rfl,HB.o⟩
  have a4:32<nT:=by omega
  have a3:¬nT<1:=by omega
  clear h;go_wp2;go_ret;exact⟨rfl,HB.o⟩
theorem ri.raw (w:World)(AP AT:Option Addr)(nP cP nT cT:Nat)(m:Int)(h:32<nP\/32<nT)(h1:nP<=9223372036854775807)(h2:nT<=9223372036854775807):ri w (.slice AP nP cP) (.slice AT nT cT) m:=λW _=>by
 have HC:=qh (λw=>uE w AP AT nP cP nT cT h h1 h2)
 have HB0:=qh ((Below.refl W.heap.size W).alloc (Nat.le_refl _) (.cells #[.slice AP nP cP,.slice AT nT cT] 24))
 clear h h1 h2
 go_enter Tryz.func10,Tryz.ntmps10
 go_wp2_with fail
 refine(HC.o _).mono ?_
 rintro en w1 ⟨rfl,b1⟩
 have HB1:=qh (HB0.o.trans (b1.mono HB0.o.size))
 clear b1
 go_wp2
 go_ret
 exact⟨rfl,HB1.o⟩
end
section
open Go.RowKit
theorem pj {P:Program} {f:FuncId} {fn:Func} (hf:P.funcs[f]? =some fn) (hname:(fn.name== "runtime.NumGoroutine")=false) (hb:fn.body.isNone=true) (hn:Extern.findNext fn=none) (k:IntKind)
    (he:Extern.find fn=some (Extern.Atomic.swapT (.int k))) {a:Addr} {x y:Int} {w:World} (hc:w.cell? a=some (.int k x)) (hz:w.frozen? a=false):
    (callFunc f #[.pointer (some a),.int k y]).run P w= .ok (.value (.int k x)) (w.setCell a (.int k y)):=by
  rw[run_callFunc_extern hf hname hb hn he]
  change (Sem.run P (do
    let a' <-asAddr (.pointer (some a))
    let old <-Extern.Atomic.read (.int k) a'
    store a' (.int k y) .atomic
    pure old) w).andThen _=_
  simp[Extern.Atomic.read,asAddr,hc,hz,run_store P w a (.int k y) .atomic rfl,Result.andThen]
theorem FA (w:World) (p:Addr) (x:Int) (hc:w.cell? p=some (.int .i64 x)) (hp:p.spot=none):
    Calls Tryz.prog 113 #[.pointer (some p)] w λe w'=>e= .returned (.int .i64 x)/\w=w':=by obtain⟨b,o,sp⟩:=p;obtain rfl:sp=none:=hp;have hl:=run_call_load (P:=Tryz.prog) Tryz.func157 Q0 Q0 Q0 .i64 Q0 hc;clear hc;go_enter Tryz.func113,Tryz.ntmps113;go_wp2;go_ret;exact⟨rfl,rfl⟩
theorem FE (w:World) (b o:Nat) (x y:Int) (hc:w.cell? ⟨b,o,none⟩=some (.int .i64 x)) (hz:w.frozen? ⟨b,o,none⟩=false):
    Calls Tryz.prog 273 #[.pointer (some ⟨b,o,none⟩),.int .i64 y] w λe w'=>e= .returned (.int .i64 x)/\w'=w.setCell ⟨b,o,none⟩ (.int .i64 y):=by have hl:=pj (P:=Tryz.prog) Tryz.func275 Q0 Q0 Q0 .i64 Q0 (y:=y) hc hz;go_enter Tryz.func273,Tryz.ntmps273;go_wp2;go_ret;exact⟨rfl,rfl⟩
theorem aA.put {w:World} {a g:Nat} {s:Ar} (h:aA w a g s) {x:Int} (hx:inR s.W x=true) (v:Int):
    aA (w.setCell ⟨g,x.toNat-1,none⟩ (.int .i64 v)) a g (wrA s x v)/\aa [a,g] w (w.setCell ⟨g,x.toNat-1,none⟩ (.int .i64 v)):=by
  have h12:=aO.1 hx;refine⟨⟨?_,?_,h.ne,?_,h.room,h.ops⟩,(aa.refl _ _).setCell (.inl QY) _⟩;· have:=h.blk.far (p:=⟨g,x.toNat-1,none⟩) h.ne (.int .i64 v);have e:gn g (wrA s x v)=gn g s:=(by unfold gn wrA;rw[bE]);rw[e];exact this
  · have:=h.wds.set_ (x.toNat-1) (.int .i64 v);rw[Dx s QX]at this;have e:wrA s x v={s with W:=s.W.set (x.toNat-1) v}:=(by unfold wrA stW;rw[if_pos hx]);rw[e];exact this
  · show(stW s.W x v).length<=_;rw[bE];exact h.le
theorem iX{a g:Nat}{w w':World}(h:aa [a] w w'):aa [a,g] w w':=h.mono QY
def eU (w:World)(a g:Nat)(s':Ar)(r:Value)(e:Ending)(w':World):Prop:=e= .returned r/\aA w' a g s'/\aa [a,g] w w'
theorem aC {w:World} {a g:Nat} {s:Ar} (h:aA w a g s) (x:Int) (ho:s.ops+1<=1000000000000):
    Calls Tryz.prog 173 #[↑a,.int .i64 x] w (eU w a g (ae s x) (.int .i64 (ldW s.W x))):=by
  have H:=qh h;cases hx:inR s.W x;· have e:eU w a g (ae s x) (.int .i64 (ldW s.W x)) (.returned (.int .i64 0)) w:=⟨by rw[kI hx],by unfold ae;rw[iM s _ _ _ hx];exact h,aa.refl _ _⟩;have HX:=qh hx;clear h hx;go_enter Tryz.func173,Tryz.ntmps173;go_wp2_with fail;refine(jQ H.o x HX.o).mono ?_;rintro en w1 ⟨rfl,rfl⟩;go_wp2;go_ret;exact e
  · have HX:=qh hx;have HE:=qh (i6 hx);have h12:=aO.1 hx;have hil:x.toNat-1<s.W.length:=(by omega);clear h hx;go_enter Tryz.func173,Tryz.ntmps173;go_wp2_with fail;refine(j4 H.o x HX.o).mono ?_;rintro en w1 ⟨rfl,rfl⟩;go_wp2_with fail;refine(iN H.o 1 x false HX.o ho).mono ?_;rintro en w1 ⟨rfl,h1,t1⟩;have hc:=(h1.word (i:=x.toNat-1) (by rw[dG];exact hil)).1;rw[dG]at hc;have H1:=qh (And.intro h1 t1);clear h1 t1;go_wp2_with fail;refine(FA _ _ _ hc rfl).mono ?_;rintro en w2 ⟨rfl,rfl⟩;clear hc;rw[<-HE.o];obtain⟨r,hr⟩:∃r,r=ldW s.W x:=⟨_,rfl⟩;rw[<-hr];have HR:=qh hr;clear hr;go_wp2;go_ret;exact⟨by rw[HR.o];rfl,H1.o.1,iX H1.o.2⟩
theorem ff {w:World} {a g:Nat} {s:Ar} (h:aA w a g s) (x v:Int) (ho:s.ops+1<=1000000000000):
    Calls Tryz.prog 271 #[↑a,.int .i64 x,.int .i64 v] w (eU w a g (bY s x v) (.int .i64 (ldW s.W x))):=by
  have H:=qh h;cases hx:inR s.W x;· have e:eU w a g (bY s x v) (.int .i64 (ldW s.W x)) (.returned (.int .i64 0)) w:=⟨by rw[kI hx],by unfold bY;rw[iM s _ _ _ hx,rc s _ _ hx];exact h,aa.refl _ _⟩;have HX:=qh hx;clear h hx;go_enter Tryz.func271,Tryz.ntmps271;go_wp2_with fail;refine(jQ H.o x HX.o).mono ?_;rintro en w1 ⟨rfl,rfl⟩;go_wp2;go_ret;exact e
  · have HX:=qh hx;have HE:=qh (i6 hx);have h12:=aO.1 hx;have hil:x.toNat-1<s.W.length:=(by omega);clear h hx;go_enter Tryz.func271,Tryz.ntmps271;go_wp2_with fail;refine(j4 H.o x HX.o).mono ?_;rintro en w1 ⟨rfl,rfl⟩;go_wp2_with fail;refine(iN H.o 3 x true HX.o ho).mono ?_;rintro en w1 ⟨rfl,h1,t1⟩;have hc:=h1.word (i:=x.toNat-1) (by rw[dG];exact hil);rw[dG]at hc;have hp:=h1.put (x:=x) (by rw[dG];exact HX.o) v;have H1:=qh (And.intro hp t1);have HC:=qh hc;clear h1 t1 hp hc;go_wp2_with fail;refine(FE _ _ _ _ _ HC.o.1 HC.o.2).mono ?_;rintro en w2 ⟨rfl,rfl⟩;rw[<-HE.o];obtain⟨r,hr⟩:∃r,r=ldW s.W x:=⟨_,rfl⟩;rw[<-hr];have HR:=qh hr;clear hr;go_wp2;go_ret;exact⟨by rw[HR.o];rfl,H1.o.1.1,(iX H1.o.2).trans H1.o.1.2⟩
end
end Go.Proofs.YtglokdbiggbkjaaGreat
