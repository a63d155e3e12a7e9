/- Joined texts. -/
import Derived.Test.YtglokdbiggbkjaaGreatRows
import Derived.RegionCalls
import Derived.Laws.OwnMore
import Derived.OwnWalk
import Derived.Maps.AppendAt
import Derived.Deep.RegionHeld3
import Derived.Deep.DeepCutAuto
import Derived.Tactics
import Derived.Tactics2
import Derived.Defers
import Derived.Laws.Pointers
import Derived.Laws.LoneSync
import Derived.RegionTactic
import Derived.ChangeAlike
import Derived.IntWalk
import Derived.Test.YtglokdbiggbkjaaGreatMgWholeRefuses0
import Derived.Test.YtglokdbiggbkjaaGreatMgWholeRefuses1
import Derived.Test.YtglokdbiggbkjaaGreatMgWholeRefuses3
set_option linter.unusedVariables false
set_option linter.unusedSimpArgs false
set_option linter.defProp false
set_option maxRecDepth 100000
set_option maxHeartbeats 16000000
open Go.Proofs.Tryz
namespace Go.Proofs.YtglokdbiggbkjaaGreat
open Go.IntKind(i64)
open Go.Value(int bool slice agg tuple pointer)
open Go.Ending(returned)
open Go.Obj(cells)
variable{k b sz i:Nat}{x p B C:Int}{P:List Int}{w':World}
section
open Go.RowKit
variable{l:List Int}{p:Int->Bool}
def fI(l:List Int)(x:Int):Int:=if x∈l then((l.idxOf x:Nat):Int)else -1
def Dm(h:l[k]? =some x)(V:x∉l.take k):fI l x=k:=by
 unfold fI;have hm:x∈l:=List.mem_of_getElem? h;obtain⟨I,H⟩:=List.getElem?_eq_some_iff.1 h;rw[if_pos hm];have O:l=l.take k++(x :: l.drop (k+1)):=by conv=>lhs;rw[<-List.take_append_drop k l,List.drop_eq_getElem_cons I,H]
 have:l.idxOf x=k:=by rw[O,List.idxOf_append];rw[if_neg V,List.idxOf_cons_self];simp;omega
 rw[this]
def AR(h:x∉l):fI l x= -1:=by unfold fI;rw[if_neg h]
def eP(l:List Int)(x:Int):(0<=fI l x↔x∈l)/\fI l x<l.length/\-1<=fI l x:=by
 unfold fI;split;.rename_i h;have:=List.idxOf_lt_length_of_mem h;exact⟨by simp[h],by omega,by omega⟩
 .rename_i h;exact⟨by simp[h],by omega,by omega⟩
def nV(p:Int->Bool)(l:List Int):Int:=match l.findIdx? p with|some i=>(i:Int)|none=>-1
def AA(h:l[k]? =some x)(V:p x=true)(O:∀y∈l.take k,p y=false):nV p l=k:=by
 obtain⟨I,H⟩:=List.getElem?_eq_some_iff.1 h;have:l.findIdx? p=some k:=by rw[List.findIdx?_eq_some_iff_getElem];refine⟨I,by rw[H];exact V,λj Y=>?_⟩;have:=O l[j] (List.mem_take_iff_getElem.2 ⟨j,by omega,rfl⟩);simp[this]
 unfold nV;rw[this]
def ya(h:∀y∈l,p y=false):nV p l= -1:=by
 have:l.findIdx? p=none:=by rw[List.findIdx?_eq_none_iff];exact h
 unfold nV;rw[this]
def sq(p:Int->Bool)(l:List Int):(decide (0<=nV p l)=l.any p)/\nV p l<l.length/\-1<=nV p l:=by
 unfold nV;cases h:l.findIdx? p with
 |none=>rw[List.findIdx?_eq_none_iff]at h;refine⟨?_,by show(-1:Int)<_;omega,by show(-1:Int)<=-1;omega⟩;symm;show _=decide ((0:Int)<=-1);rw[show decide ((0:Int)<=-1)=false from rfl,List.any_eq_false];intro x I H;rw[h x I]at H;cases H
 |some i=>rw[List.findIdx?_eq_some_iff_getElem]at h;obtain⟨hi,H,_⟩:=h;refine⟨?_,by show(i:Int)<_;omega,by show(-1:Int)<=(i:Int);omega⟩;rw[decide_eq_true (show(0:Int)<=(i:Int)by omega)];symm;rw[List.any_eq_true];exact⟨l[i],List.getElem_mem hi,H⟩
def lZ(w:World)(v:Value)(l:List Int)(x:Int)(h:RdL w v 1 encI l):E 119 #[v,J x] w λe w'=>e= returned (J (fI l x))/\w=w':=by
  obtain⟨A,cap,rfl,l1,l2,V⟩:=h;have HR:=qh V;clear V;go_enter func119,ntmps119;go_wp2;go_loop [8] (λi=>∃k:Nat,i= J k/\k<=l.length/\x∉l.take k) (λi=>l.length-(intOf i).toNat);case atStart=>exact⟨0,rfl,by omega,by simp⟩
  case round=>
    obtain⟨k,rfl,hk,H⟩:=hrel;by_cases I':k<l.length
    . obtain⟨bl,off,rfl,Ki,hc⟩:=HR.o ahE;obtain⟨y,Y⟩:=ak I';have c0:=hc k y Y 0 _ rfl;simp only[Nat.add_zero,Nat.mul_one]at c0;have I:=qh (And.intro Y H);clear hc Y H;cases O:(x==y)
      . have ab:Kq (x∉l.take (k+1)):=qh (by
          rw[jG I.o.1];rintro(h|h);. exact I.o.2 h
          . rw[h]at O;simp at O)
        go_wp2;go_round;case rel=>exact⟨k+1,by go_num,by omega,ab.o⟩
        case measure=>simp[intOf];omega
      . have hid:Kq (fI l x=k):=qh (Dm (by rw[beq_iff_eq.1 O];exact I.o.1) I.o.2);go_wp2;go_ret;exact⟨bZ hid.o.symm,rfl⟩
    . obtain rfl:k=l.length:=by omega
      rw[List.take_length]at H;have hid:Kq (fI l x= -1):=qh (AR H);clear H;go_wp2;go_ret;exact⟨bZ hid.o.symm,rfl⟩
def qB(w:World)(v:Value)(l:List Int)(x:Int)(h:RdL w v 1 encI l):E 87 #[v,J x] w λe w'=>e= returned (bool (decide (x∈l)))/\w=w':=by have O:=qh (lZ w v l x h);have I:decide (x∈l)=decide (0<=fI l x):=decide_eq_decide.2 (eP l x).1.symm;have H:=qh I;clear h I;go_enter func87,ntmps87;go_wp2_with (go_at_call 119;refine O.o.mono ?_;rintro e w' ⟨rfl,rfl⟩);go_ret;exact⟨aA H.o.symm,rfl⟩
def zR(w:World)(b:Nat)(v:Value)(l:List Int)(x:Int)(hc:w.cell? b=some v)(h:RdL w v 1 encI l):E 86 #[J x,↑b] w λe w'=>e= returned (bool (!decide (x∈l)))/\w=w':=by have H:=qh (qB w v l x h);clear h;go_enter func86,ntmps86;go_wp2_with (go_at_call 87;refine H.o.mono ?_;rintro e w' ⟨rfl,rfl⟩);go_ret;exact⟨aA ahF,rfl⟩
def zS(w:World)(b:Nat)(ve v:Value)(en l:List Int)(Mu:w.cell? b=some ve)(Qa:RdL w ve 1 encI en)(h:RdL w v 1 encI l):E 118 #[v,.func (.func 86) #[] #[↑b]] w λe w'=>e= returned (J (nV (λx=>!decide (x∈en)) l))/\w=w':=by
  obtain⟨A,cap,rfl,l1,l2,V⟩:=h;have HR:=qh V;have HE:=qh (And.intro Mu Qa);clear V Mu Qa;go_enter func118,ntmps118;go_wp2;go_loop [8] (λi=>∃k:Nat,i= J k/\k<=l.length/\∀x∈l.take k,(!decide (x∈en))=false) (λi=>l.length-(intOf i).toNat);case atStart=>exact⟨0,rfl,by omega,by simp⟩
  case round=>
    obtain⟨k,rfl,hk,I⟩:=hrel;by_cases I':k<l.length
    . obtain⟨bl,off,rfl,Ki,hc⟩:=HR.o ahE;obtain⟨y,hy⟩:=ak I';have c0:=hc k y hy 0 _ rfl;simp only[Nat.add_zero,Nat.mul_one]at c0;have Y:=qh (And.intro hy I);clear hc hy I;have O:=qh (zR w b ve en y HE.o.1 HE.o.2);cases H:(!decide (y∈en))
      . have ab:Kq (∀x∈l.take (k+1),(!decide (x∈en))=false):=qh (by
          intro x hx;rcases(jG Y.o.1 x).1 hx with h|h
          . exact Y.o.2 x h
          . rw[h];exact H)
        rw[H]at O;clear H;go_wp2_with (go_at_call 86;refine O.o.mono ?_;rintro e w' ⟨rfl,rfl⟩);go_round;case rel=>exact⟨k+1,by go_num,by omega,ab.o⟩
        case measure=>simp[intOf];omega
      . have hid:Kq (nV (λx=>!decide (x∈en)) l=k):=qh (AA Y.o.1 H Y.o.2);rw[H]at O;clear H;go_wp2_with (go_at_call 86;refine O.o.mono ?_;rintro e w' ⟨rfl,rfl⟩);go_ret;exact⟨bZ hid.o.symm,rfl⟩
    . obtain rfl:k=l.length:=by omega
      rw[List.take_length]at I;have hid:Kq (nV (λx=>!decide (x∈en)) l= -1):=qh (ya I);clear I;go_wp2;go_ret;exact⟨bZ hid.o.symm,rfl⟩
def lR(w:World)(b:Nat)(H v:Value)(en l:List Int)(I:w.cell? b=some H)(O:RdL w H 1 encI en)(h:RdL w v 1 encI l):E 85 #[v,.func (.func 86) #[] #[↑b]] w λe w'=>e= returned (bool (l.any λx=>!decide (x∈en)))/\w=w':=by have Y:=qh (zS w b H v en l I O h);have V:=qh (sq (λx=>!decide (x∈en)) l).1;clear h I O;go_enter func85,ntmps85;go_wp2_with (go_at_call 118;refine Y.o.mono ?_;rintro e w' ⟨rfl,rfl⟩);go_ret;exact⟨aA V.o,rfl⟩
end
section
open Go.RowKit
def xv{f:Nat->Bool}{n:Nat}(H:k<n)(h:f k=false):(List.range n).all f=false:=by rw[List.all_eq_false];exact⟨k,List.mem_range.2 H,by simp[h]⟩
def tU(w:World)(v:Value)(P:List Int)(h:RdL w v 1 encI P):E 82 #[v] w λe w'=>e= returned (bool (dZ P))/\w=w':=by
  obtain⟨A,cap,rfl,l1,l2,V⟩:=h;have HR:=qh V;clear V;go_enter func82,ntmps82;go_wp2;go_loop [7] (λi=>∃k:Nat,i= J k/\k<=P.length/\(List.range k).all (okP P)=true) (λi=>P.length-(intOf i).toNat);case atStart=>exact⟨0,rfl,by omega,rfl⟩
  case round=>
    obtain⟨k,rfl,hk,Y⟩:=hrel;by_cases I':k<P.length
    . obtain⟨bl,off,rfl,Ki,hc⟩:=HR.o ahE;obtain⟨p,hp⟩:=ak I';have c0:=hc k p hp 0 _ rfl;simp only[Nat.add_zero,Nat.mul_one]at c0;have HP:=qh (And.intro (bH hp) Y);clear hc hp Y;by_cases H:(k=0->p= -1)/\(0<k->0<=p/\p<k)
      . have I:Kq ((List.range (k+1)).all (okP P)=true):=qh (by
          rw[oF,HP.o.2];simp only[Bool.true_and]
          exact decide_eq_true (by rw[HP.o.1];exact H))
        by_cases O:k=0
        . have e1:=H.1 O;subst O;subst e1;simp only[Nat.add_zero]at c0;go_wp2;go_round;case rel=>exact⟨1,by rfl,by omega,I.o⟩
          case measure=>simp[intOf];omega
        . obtain⟨e1,e2⟩:=H.2 ahE;have t0:((k:Int)==0)=false:=(by rw[beq_eq_false_iff_ne];omega);have t1:decide (0<k)=true:=decide_eq_true ahE;have t2:decide (p<0)=false:=decide_eq_false ahE;have t3:decide ((k:Int)<=p)=false:=decide_eq_false ahE;clear H O;go_wp2;go_round;case rel=>exact⟨k+1,by go_num,by omega,I.o⟩
          case measure=>simp[intOf];omega
      . have I:Kq (dZ P=false):=qh (xv I' (decide_eq_false (by rw[HP.o.1];exact H)));by_cases O:k=0;. subst O;simp only[Nat.add_zero]at c0;have t1:(p != -1)=true:=(by rw[bne_iff_ne];intro h;exact H ⟨λ_=>h,by omega⟩);clear H;go_wp2;go_ret;exact⟨aA I.o.symm,rfl⟩
        . have t0:((k:Int)==0)=false:=(by rw[beq_eq_false_iff_ne];omega);have t1:decide (0<k)=true:=decide_eq_true ahE;by_cases JW:p<0;. clear H O;go_wp2;go_ret;exact⟨aA I.o.symm,rfl⟩
          . have t3:decide ((k:Int)<=p)=true:=decide_eq_true ahE;have t2:decide (p<0)=false:=decide_eq_false ahE;clear H O;go_wp2;go_ret;exact⟨aA I.o.symm,rfl⟩
    . obtain rfl:k=P.length:=by omega
      have I:Kq (dZ P=true):=qh Y;clear Y;go_wp2;go_ret;exact⟨aA I.o.symm,rfl⟩
def sm(b:Bool):List Value:=[.bool b]
def Aq(b:Bool):(sm b).length=1:=rfl
theorem Tryz.infoBool:(prog.info? 4).map (λi=>(i.zero,i.size,i.bytes))=some (some (bool false),1,1):=by kernel_rfl
theorem Tryz.infoIn:(prog.info? 3).map (λi=>(i.zero,i.size,i.bytes))=some (some (J 0),1,8):=by kernel_rfl
def kB(u:Value)(n:Nat):(madeCells #[u] n).toList=(List.range n).map λ_=>u:=by unfold madeCells;rw[Array.toList_map,Array.toList_range];refine List.map_congr_left λi _=>?_;simp[Nat.mod_one]
def sX{α:Type}(enc:α->Value)(l:List α):l.map enc=l.flatMap (λx=>[enc x]):=by
 induction l with
 |nil=>rfl
 |cons a l h=>rw[List.map_cons,List.flatMap_cons,h];rfl
def gx(P:List Int)(k:Nat):List Bool:=(List.range P.length).map fun(u:Nat)=>decide ((u:Int)∈P.take k)
def mb(P:List Int)(k:Nat):(gx P k).flatMap sm=(List.range P.length).map fun(u:Nat)=>Value.bool (decide ((u:Int)∈P.take k)):=by unfold gx;show List.flatMap (λx=>[Value.bool x]) _=_;rw[<-sX Value.bool,List.map_map];rfl
def j5(P:List Int)(k:Nat):(gx P k).length=P.length:=by simp[gx]
def yd(w:World)(v:Value)(P:List Int)(h:RdL w v 1 encI P)(ht:dZ P=true)(MI:P.length<=1000):E 117 #[v] w λe w'=>∃v',e= returned v'/\RdL w' v' 1 sm (gx P P.length)/\Below w.heap.size w w':=by
  obtain⟨i0,hi,JF,JH,ab⟩:=info_parts Tryz.infoBool;obtain⟨A,cap,rfl,l1,l2,V⟩:=h;have HR:=qh V;have HT:=qh ht;clear V ht;go_enter func117,ntmps117;go_wp2_with (refine wpList_make_full _ rfl (.tmp 7) (.tmp 7) 220 rfl w.heap.size 4 i0 (bool false) 1 Tryz.underlying220 hi JF JH .i64 .i64 P.length P.length P.length rfl rfl rfl rfl ?b2 ?b3 (Nat.le_refl _) ?_);case b2=>rw[ab];omega
  case b3=>unfold maxLen;omega
  intro w1 H hg;have N7:w1.ownsRow w.heap.size 4 1 (slice (some ⟨w.heap.size,0,none⟩) P.length P.length) P.length ((gx P 0).flatMap sm):=by rw[mb];have e:(madeCells #[Value.bool false] P.length).toList=(List.range P.length).map fun(u:Nat)=>Value.bool (decide ((u:Int)∈P.take 0)):=(by rw[kB];refine List.map_congr_left λi _=>by simp);rw[e]at H;exact H
  have JY:Below w.heap.size w w1:=(Below.refl w.heap.size w).grown hg (Nat.le_refl _) (λj hj=>by cases hj);clear H hg;go_wp2;go_loopw [11] (λi wr=>∃k:Nat,i= J k/\k<=P.length/\wr.ownsRow w.heap.size 4 1 (slice (some ⟨w.heap.size,0,none⟩) P.length P.length) P.length ((gx P k).flatMap sm)/\Below w.heap.size w wr) (λi _=>P.length-(intOf i).toNat);case atStart=>exact⟨0,rfl,by omega,N7,JY⟩
  case round=>
    clear N7 JY;obtain⟨k,rfl,hk,H,O⟩:=hrel;by_cases I':k<P.length
    . obtain⟨bl,off,rfl,Ki,hc⟩:=HR.o ahE;obtain⟨p,hp⟩:=ak I';have c0:=(O.cell (p:=⟨bl,off+k*1+0,none⟩) Ki).trans (hc k p hp 0 _ rfl);simp only[Nat.add_zero,Nat.mul_one]at c0;have Ry:=gD HT.o hp;have HP:=qh hp;clear hc hp;by_cases h0:0<=p
      . have f0:=H.frozenAt p.toNat;have g0:=H.cellAt p.toNat ahE;have NC:=(H.lt _ rfl).2;have JA:=H.stored p.toNat (bool true)
        have Y:Kq (∀W:World,W.ownsRow w.heap.size 4 1 (slice (some ⟨w.heap.size,0,none⟩) P.length P.length) P.length (((gx P k).flatMap sm).set p.toNat (bool true))->W.ownsRow w.heap.size 4 1 (slice (some ⟨w.heap.size,0,none⟩) P.length P.length) P.length ((gx P (k+1)).flatMap sm)):=qh λW hW=>by
          rw[mb]at hW ⊢
          rw[p8 P.length p.toNat _ (fun(u:Nat)=>Value.bool (decide ((u:Int)∈P.take (k+1)))) (bool true) (by
            show Value.bool (decide (((p.toNat:Nat):Int)∈P.take (k+1)))=_
            rw[decide_eq_true ((jG HP.o _).2 (.inr ahE))]) (λj hj=>by
            show Value.bool (decide ((j:Int)∈P.take (k+1)))=Value.bool (decide ((j:Int)∈P.take k));congr 1;refine decide_eq_decide.2 ?_;rw[jG HP.o]
            exact⟨λh=>h.elim id (λh=>by omega),.inl⟩)]at hW
          exact hW
        obtain⟨u,hu⟩:∃u,((gx P k).flatMap sm)[p.toNat]? =some u:=by rw[mb,iY _ _ _ ahE];exact⟨_,rfl⟩
        rw[hu]at g0;obtain⟨m,rfl⟩:=Int.eq_ofNat_of_zero_le h0;simp only[Int.toNat_natCast]at f0 g0 JA Y;have I:=qh (And.intro JA O);clear hu JA O H;go_wp2;go_roundw;case rel=>exact⟨k+1,by go_num,by omega,Y.o _ I.o.1.1,I.o.2.setCell (Nat.le_refl _) _⟩
        case measure=>simp[intOf];omega
      . have Y:Kq (gx P (k+1)=gx P k):=qh (by
          unfold gx;refine List.map_congr_left λu _=>decide_eq_decide.2 ?_;rw[jG HP.o]
          exact⟨λh=>h.elim id (λh=>by omega),.inl⟩)
        have I:=qh (And.intro H O);clear H O;go_wp2;go_roundw;case rel=>exact⟨k+1,by go_num,by omega,by rw[Y.o];exact I.o.1,I.o.2⟩
        case measure=>simp[intOf];omega
    . obtain rfl:k=P.length:=by omega
      have I:=qh (And.intro H O);clear H O;go_wp2;go_ret;exact⟨_,rfl,RdL.of_own Aq (j5 P _).symm (by rw[j5];omega) I.o.1,I.o.2⟩
end
section
open Go.RowKit
variable{w:World}{v:Value}
def db{b':Nat}{e:TypeId}{n:Nat}{xs:List Value}(h:w.ownsRow b e sz v n xs)(I:b'<=b):w.ownsRow b' e sz v n xs:=by
 rcases h.2 with O|⟨g,cap,H,V,Y,q⟩
 .exact⟨h.1,.inl O⟩
 .exact⟨h.1,.inr ⟨g,cap,H,V,Nat.le_trans I Y,q⟩⟩
def dJ{l:List Int}(h:w.ownsRow b 3 1 v l.length (l.flatMap encI))(H:l.length<=140737488355328):RdL w v 1 encI l:=RdL.of_own so rfl H h
def ke(x:Int):∀u∈encI x,u.oneCell'=true:=by simp[encI,Value.oneCell']
def Fi(h:k<P.length):(gx P P.length)[k]? =some (decide ((k:Int)∈P)):=by unfold gx;rw[iY _ _ _ h,List.take_length]
def Ba(H:k<P.length):eV P k=!decide ((k:Int)∈P):=by
 unfold eV;by_cases h:(k:Int)∈P;.simp[h]
 .simp[h,H]
def iK(l:List Int)(x:Int):(l++[x]).flatMap encI=l.flatMap encI++encI x:=by simp
def oe(w:World)(v:Value)(P:List Int)(h:RdL w v 1 encI P)(ht:dZ P=true)(MI:P.length<=1000):E 83 #[v] w λe w'=>∃v',e= returned v'/\w'.ownsRow w.heap.size 3 1 v' (ac P).length ((ac P).flatMap encI)/\Below w.heap.size w w':=by
  refine ajV ?_;intro i0 hi JF JH hz2 HI;have HC:=qh (yd w v P h ht MI);clear hi JF JH hz2 h ht;go_enter func83,ntmps83;go_wp2_with fail;refine HC.o.mono ?_;rintro en w1 ⟨v',rfl,hR,I⟩;have HB:=qh I;have Ju:=I.size;clear I;obtain⟨A,cap,rfl,l1,l2,V⟩:=hR;have HR:=qh V;clear V;have Vu:(gx P P.length).length=P.length:=j5 _ _;rw[Vu]at *;clear Vu;go_wp2;go_loopw [3,9] (λo i wr=>∃k:Nat,i= J k/\k<=P.length/\wr.ownsRow w1.heap.size 3 1 o (ay P k).length ((ay P k).flatMap encI)/\Below w1.heap.size w1 wr) (λ_ i _=>P.length-(intOf i).toNat);case atStart=>exact⟨0,rfl,by omega,World.ownsRow_nil _ _ _ _,Below.refl _ _⟩
  case round=>
    obtain⟨k,rfl,hk,O,Y⟩:=hrel;by_cases I':k<P.length
    . obtain⟨bl,off,rfl,Ki,hc⟩:=HR.o (by rw[j5];omega);have c0:=(Y.cell (p:=⟨bl,off+k*1+0,none⟩) Ki).trans (hc k _ (Fi I') 0 _ rfl);simp only[Nat.add_zero,Nat.mul_one]at c0;have KD:=a7 P k;have J0:=Y.size;have HS:=qh (eG P k);have HL:=qh (Ba I');have H:=qh (And.intro O Y);obtain⟨A9,c9,rfl⟩:=bO O;clear hc Y;cases hm:decide ((k:Int)∈P)
      . rw[hm]at c0;have HM:=qh hm;clear hm;go_wp2_with (at_builtin;refine wpList_append_own _ rfl _ _ 22 rfl w1.heap.size 3 i0 (J 0) 1 8 Tryz.underlying22 HI.o.1 HI.o.2.1 HI.o.2.2.1 HI.o.2.2.2 rfl ahG _ _ _ rfl (O.alloc _) ⟨wr.heap.size,0,none⟩ 1 1 (encI k) rfl rfl (cell_one_new _ _ _) (ke _) ?c3 ?c4 ?c5 ?_);case c3=>unfold maxLen;omega
        case c4=>omega
        case c5=>simp;omega
        intro v' w' MB Mw OA;have HN:=qh (And.intro MB Mw);clear MB Mw OA O;go_wp2;go_roundw;case rel=>exact⟨k+1,by go_num,by omega,by rw[HS.o,HL.o,HM.o];simp only[Bool.not_false,if_true];rw[iK,List.length_append];exact HN.o.1,(H.o.2.alloc J0 _).grown HN.o.2 ahJ (λj hj=>(H.o.1.lt j hj).1)⟩
        case measure=>simp[intOf];omega
      . rw[hm]at c0;have HM:=qh hm;clear hm O;go_wp2;go_roundw;case rel=>exact⟨k+1,by go_num,by omega,by rw[HS.o,HL.o,HM.o];exact H.o.1,H.o.2⟩
        case measure=>simp[intOf];omega
    . obtain rfl:k=P.length:=by omega
      have KD:=a7 P P.length;have H:=qh (And.intro O Y);clear O Y;go_wp2;go_ret;exact⟨_,rfl,db H.o.1 Ju,HB.o.trans (H.o.2.mono Ju)⟩
def gR(P:List Int)(k:Nat):List Int:=(List.range P.length).map fun(u:Nat)=>if u<k then((depL P u:Nat):Int)else 0
def pB(P:List Int):List Int:=(List.range P.length).map fun(u:Nat)=>((depL P u:Nat):Int)
def yk(P:List Int)(k:Nat):(gR P k).length=P.length:=by simp[gR]
def yi(P:List Int):gR P P.length=pB P:=by unfold gR pB;exact List.map_congr_left λu h=>if_pos (List.mem_range.1 h)
def iJ(l:List Int):l.flatMap encI=l.map (Value.int .i64):=(sX _ _).symm
def pV(P:List Int)(k:Nat)(x:Int)(H:x=((depL P k:Nat):Int)):((gR P k).flatMap encI).set k (J x)=(gR P (k+1)).flatMap encI:=by
 rw[iJ,iJ];unfold gR;rw[List.map_map,List.map_map];refine p8 P.length k _ _ _ ?_ λj I=>?_;.show Value.int .i64 (if k<k+1 then _ else _)=_;rw[if_pos ahE,H]
 .show Value.int .i64 (if j<k+1 then _ else _)=Value.int .i64 (if j<k then _ else _);by_cases h:j<k;.rw[if_pos h,if_pos ahE]
  .rw[if_neg h,if_neg ahE]
def yj(P:List Int)(k m:Nat)(hm:m<k)(h:k<=P.length):((gR P k).flatMap encI)[m]? =some (J ((depL P m:Nat):Int)):=by rw[iJ];unfold gR;rw[List.map_map,iY _ _ _ ahE];show some (Value.int .i64 (if m<k then _ else _))=_;rw[if_pos hm]
def uL(w:World)(v:Value)(P:List Int)(h:RdL w v 1 encI P)(ht:dZ P=true)(MI:P.length<=1000):E 84 #[v] w λe w'=>∃v',e= returned v'/\w'.ownsRow w.heap.size 3 1 v' (pB P).length ((pB P).flatMap encI)/\Below w.heap.size w w':=by
  obtain⟨i0,hi,JF,JH,ab⟩:=info_parts Tryz.infoIn;obtain⟨A,cap,rfl,l1,l2,V⟩:=h;have HR:=qh V;have HT:=qh ht;clear V ht;go_enter func84,ntmps84;go_wp2_with (refine wpList_make_full _ rfl (.tmp 7) (.tmp 7) 22 rfl w.heap.size 3 i0 (J 0) 1 Tryz.underlying22 hi JF JH .i64 .i64 P.length P.length P.length rfl rfl rfl rfl ?b2 ?b3 (Nat.le_refl _) ?_);case b2=>rw[ab];omega
  case b3=>unfold maxLen;omega
  intro w1 H hg;have N7:w1.ownsRow w.heap.size 3 1 (slice (some ⟨w.heap.size,0,none⟩) P.length P.length) P.length ((gR P 0).flatMap encI):=by have e:(madeCells #[Value.int .i64 0] P.length).toList=(gR P 0).flatMap encI:=(by rw[kB,iJ];unfold gR;rw[List.map_map];exact List.map_congr_left λi _=>rfl);rw[e]at H;exact H
  have JY:Below w.heap.size w w1:=(Below.refl w.heap.size w).grown hg (Nat.le_refl _) (λj hj=>by cases hj);clear H hg hi JF JH ab;go_wp2;go_loopw [11] (λi wr=>∃k:Nat,i= J k/\k<=P.length/\wr.ownsRow w.heap.size 3 1 (slice (some ⟨w.heap.size,0,none⟩) P.length P.length) P.length ((gR P k).flatMap encI)/\Below w.heap.size w wr) (λi _=>P.length-(intOf i).toNat);case atStart=>exact⟨0,rfl,by omega,N7,JY⟩
  case round=>
    clear N7 JY;obtain⟨k,rfl,hk,H,O⟩:=hrel;by_cases I':k<P.length
    . obtain⟨bl,off,rfl,Ki,hc⟩:=HR.o ahE;obtain⟨p,hp⟩:=ak I';have c0:=(O.cell (p:=⟨bl,off+k*1+0,none⟩) Ki).trans (hc k p hp 0 _ rfl);simp only[Nat.add_zero,Nat.mul_one]at c0;have Ry:=gD HT.o hp;have Y:=iG HT.o hp;have ad:=CZ P p;have HP:=qh hp;clear hc hp;have f0:=H.frozenAt k;have g0:=H.cellAt k ahE;have NC:=(H.lt _ rfl).2;obtain⟨u,hu⟩:∃u,((gR P k).flatMap encI)[k]? =some u:=by rw[iJ];unfold gR;rw[List.map_map,iY _ _ _ ahE];exact⟨_,rfl⟩
      rw[hu]at g0;clear hu;have al:bl≠w.heap.size:=(by omega);by_cases h0:0<=p
      . rw[if_pos h0]at Y;obtain⟨m,rfl⟩:=Int.eq_ofNat_of_zero_le h0;have g1:=H.cellAt m ahE;rw[yj P k m ahE hk]at g1;have JA:=(H.stored k (J 1)).1.stored k (J (((depL P m:Nat):Int)+1));have HN:=qh (pV P k (((depL P m:Nat):Int)+1) (by rw[Y];omega));have I:=qh (And.intro JA O);clear JA O H Y;go_wp2;go_roundw;case rel=>exact⟨k+1,by go_num,by omega,by have:=I.o.1.1;rw[List.set_set,HN.o]at this;exact this,(I.o.2.setCell (Nat.le_refl _) _).setCell (Nat.le_refl _) _⟩
        case measure=>simp[intOf];omega
      . rw[if_neg h0]at Y;have JA:=H.stored k (J 1);have HN:=qh (pV P k 1 (by rw[Y];rfl));have I:=qh (And.intro JA O);clear JA O H Y;go_wp2;go_roundw;case rel=>exact⟨k+1,by go_num,by omega,by have:=I.o.1.1;rw[HN.o]at this;exact this,I.o.2.setCell (Nat.le_refl _) _⟩
        case measure=>simp[intOf];omega
    . obtain rfl:k=P.length:=by omega
      have I:=qh (And.intro H O);clear H O;go_wp2;go_ret;exact⟨_,rfl,by rw[<-yi,yk];exact I.o.1,I.o.2⟩
end
section
open Go.RowKit
variable{n base:Nat}{w:World}{v:Value}{T:List Int}{e:TypeId}{xs:List Value}
def cJ{α:Type}{enc:α->List Value}{l:List α}(h:RdL w v sz enc l):∃A c,v= .slice A l.length c/\l.length<=c/\l.length<=140737488355328:=by obtain⟨A,c,h1,H,I,_⟩:=h;exact⟨A,c,h1,H,I⟩
def ip{A:Option Addr}{c:Nat}{l:List Int}(h:RdL w (.slice A n c) 1 encI l)(O:0<l.length):∃b off,A=some ⟨b,off,none⟩/\b<w.heap.size/\∀i x,l[i]? =some x->Z w b (off+i) (J x):=by obtain⟨A',c',e,h1,h2,I⟩:=h;injection e with H e2 e3;subst H;obtain⟨b,off,Y,q2,q3⟩:=I O;refine⟨b,off,Y,q2,λi x V=>?_⟩;have:=q3 i x V 0 _ rfl;simpa using this
def kK(h:kp P T=true):a8 P T=8:=by unfold a8;rw[if_pos h]
def zT(h:kp P T=false)(H:dZ P=false):a8 P T=9:=by unfold a8;rw[h,H];rfl
def r5(h:kp P T=false)(H:dZ P=true)(I:kN P=false):a8 P T=9:=by unfold a8;rw[h,H,I];rfl
def CN(h:kp P T=false)(H:dZ P=true)(I:kN P=true):a8 P T=if thrB P T then 0 else 4:=by unfold a8;rw[h,H,I];cases thrB P T<;>rfl
def wM{v:Int}(H:0<=v)(h:v<P.length):(pB P)[v.toNat]? =some ((depL P v:Nat):Int):=by unfold pB;rw[iY _ _ _ ahE];congr 3;omega
def iX(h:w.ownsRow base e sz v n xs)(k:Below w.heap.size w w'):w'.ownsRow base e sz v n xs:=
 aa.own h (aa.of_below (S:=[]) k) (λ_ _=>by simp)
def mX(h:w.ownsRow base e sz v n xs)(g:Nat)(u:Value)(hg:∀b,v.ownBlock=some b->b≠g):(w.setCell ⟨g,0,none⟩ u).ownsRow base e sz v n xs:=
 aa.own h (aa.setCell (aa.refl [g] w) (.inl ahF) u) (λb I=>by simpa using hg b I)
def rU{W w1:World}(I:Below W.heap.size W w1):(∀b o,b<W.heap.size->w1.cell? ⟨b,o,none⟩=W.cell? ⟨b,o,none⟩)/\(∀b o,b<W.heap.size->w1.frozen? ⟨b,o,none⟩=W.frozen? ⟨b,o,none⟩):=
 ⟨λb o h=>I.cell (p:=⟨b,o,none⟩) h,λb o h=>I.frozen (p:=⟨b,o,none⟩) h⟩
theorem eR(w:World)(vP vT:Value)(P T:List Int)(hP:RdL w vP 1 encI P)(hT:RdL w vT 1 encI T):E 42 #[agg #[vP,vT]] w λe w'=>e= returned (J (a8 P T))/\Below w.heap.size w w':=by
  have HP:=qh hP;have HT:=qh hT;obtain⟨AP,cP,rfl,TK,TL⟩:=cJ hP;obtain⟨AT,cT,rfl,Qr,Qs⟩:=cJ hT;clear hP hT;have Jt:Below w.heap.size w (w.alloc (cells #[.slice AP P.length cP,.slice AT T.length cT] 24)):=(Below.refl _ _).alloc (Nat.le_refl _) _;have J':=qh Jt;clear Jt;go_enter func42,ntmps42;go_upto_region 1 with fail;go_quiet (fail);have c0:((w.alloc (cells #[.slice AP P.length cP,.slice AT T.length cT] 24)).drewN nq).cell? w.heap.size=some (.slice AP P.length cP):=by simp[World.cell?_alloc_new]
  have c1:((w.alloc (cells #[.slice AP P.length cP,.slice AT T.length cT] 24)).drewN nq).cell? ⟨w.heap.size,1,none⟩=some (.slice AT T.length cT):=by simp[World.cell?_alloc_new]
  have J0:w.heap.size+1<=((w.alloc (cells #[.slice AP P.length cP,.slice AT T.length cT] 24)).drewN nq).heap.size:=by simp[World.drewN]
  have Ms:=cl J'.o nq;clear J';generalize ((w.alloc (cells #[.slice AP P.length cP,.slice AT T.length cT] 24)).drewN nq)=wb at *;have HB:=qh Ms;have HC:=qh (And.intro c0 c1);have Pz:=qh (HP.o.below Ms (Nat.le_refl _));have Uu:=qh (HT.o.below Ms (Nat.le_refl _));clear Ms HP HT;by_cases a1:P.length<1;. have HE:=qh (kK (P:=P) (T:=T) (decide_eq_true (.inl a1)));go_wp2;go_ret;exact⟨bZ HE.o.symm,HB.o⟩
  by_cases a2:32<P.length;. have HE:=qh (kK (P:=P) (T:=T) (decide_eq_true (.inr (.inl a2))));go_wp2;go_ret;exact⟨bZ HE.o.symm,HB.o⟩
  by_cases a3:T.length<1;. have HE:=qh (kK (P:=P) (T:=T) (decide_eq_true (.inr (.inr (.inl a3)))));go_wp2;go_ret;exact⟨bZ HE.o.symm,HB.o⟩
  by_cases a4:32<T.length;. have HE:=qh (kK (P:=P) (T:=T) (decide_eq_true (.inr (.inr (.inr a4)))));go_wp2;go_ret;exact⟨bZ HE.o.symm,HB.o⟩
  have HM:=qh (show kp P T=false from decide_eq_false ahE);cases NI:dZ P;. have HE:=qh (zT HM.o NI);have HQ:=qh (tU wb _ P Pz.o);rw[NI]at HQ;clear NI;go_wp2_with (go_at_call 82;refine HQ.o.mono ?_;rintro e w' ⟨rfl,rfl⟩);go_ret;exact⟨bZ HE.o.symm,HB.o⟩
  have HQ:=qh (tU wb _ P Pz.o);rw[NI]at HQ;have PD:=qh NI;clear NI;have bd:Below wb.heap.size wb wb.drew:=(Below.refl _ _).drew;go_upto_region 4 with fail;go_wp2_with (go_at_call 82;refine HQ.o.mono ?_;rintro e w' ⟨rfl,rfl⟩);go_cut [5,6] (λs5 s6 wx=>∃g v5,s5= pointer (some ⟨g,0,none⟩)/\wb.heap.size<=g/\Z wx g 0 v5/\wx.ownsRow wb.heap.size 3 1 v5 (ac P).length ((ac P).flatMap encI)/\wx.ownsRow wb.heap.size 3 1 s6 (pB P).length ((pB P).flatMap encI)/\Below wb.heap.size wb wx)
  case first=>
    go_region_held3 (λW=>W.cell? w.heap.size=some (.slice AP P.length cP))
      (first|exact c0|exact(bd.cell (p:=w.heap.size) (show w.heap.size<wb.heap.size by omega)).trans c0|exact(k3.cell (p:=w.heap.size) (show w.heap.size<wb.heap.size by omega)).trans c0|exact(H.cell (p:=w.heap.size) (show w.heap.size<wb.heap.size by omega)).trans c0|exact((H.alloc H.size _).cell (p:=w.heap.size) (show w.heap.size<wb.heap.size by omega)).trans c0|exact(((Below.refl wb.heap.size wb).alloc (Nat.le_refl _) _).cell (p:=w.heap.size) (show w.heap.size<wb.heap.size by omega)).trans c0|exact((((Below.refl wb.heap.size wb).alloc (Nat.le_refl _) _).drew).cell (p:=w.heap.size) (show w.heap.size<wb.heap.size by omega)).trans c0|exact((k3.setCell (by first|exact H.size|exact Nat.le_refl _) _).cell (p:=w.heap.size) (show w.heap.size<wb.heap.size by omega)).trans c0|exact((k3.alloc k3.size _).cell (p:=w.heap.size) (show w.heap.size<wb.heap.size by omega)).trans c0|(simp[*];done))
      (first
        | (go_at_call 83;go_loud (refine(oe _ _ P (Pz.o.below (B:=wb.heap.size) (by first|exact bd|exact bd.alloc (Nat.le_refl _) _) (Nat.le_refl _)) PD.o ahE).mono ?_);rintro e w2 ⟨v2,rfl,o2,b2⟩;obtain⟨A2,c2,rfl⟩:=bO o2;(have H:Below wb.heap.size wb w2:=(by first|exact bd.trans (b2.mono ahF)|exact(bd.alloc (Nat.le_refl _) _).trans (b2.mono ahF)));have Lt:=(rU b2).1;have bA:=(rU b2).2;have O2:=qh o2;(first|have ab:wb.heap.size<w2.heap.size:=(by have:=b2.size;simp at this;omega)|have ab:=H.size))
        | (go_at_call 84;go_loud (refine(uL _ _ P (Pz.o.below (B:=wb.heap.size) (by first|exact H|exact H.alloc H.size _|exact H.setCell ahF _|exact(H.alloc H.size _).setCell ahF _) (Nat.le_refl _)) PD.o ahE).mono ?_);rintro e w3 ⟨v3,rfl,o3,b3⟩;have U5:=(rU b3).1;have bF:=(rU b3).2;have O3:=qh o3;(have k3:Below wb.heap.size wb w3:=(by first|exact H.trans (b3.mono H.size)|exact(H.alloc H.size _).trans (b3.mono (by simp;have:=H.size;omega))))))
    . have Kp:=b3.size;have V:=db ((iX O2.o b3).alloc (cells #[.slice A2 (ac P).length c2] 22)) (b':=wb.heap.size) ahF;have e3:=db (O3.o.alloc (cells #[.slice A2 (ac P).length c2] 22)) (b':=wb.heap.size) H.size;have e4:=(H.trans (b3.mono H.size)).alloc (Nat.le_trans H.size b3.size) (cells #[.slice A2 (ac P).length c2] 22);have O:=qh (And.intro V (And.intro e3 e4));clear V e3 e4;go_wp2_with fail;go_meet;case rel=>exact⟨_,_,rfl,Nat.le_trans H.size Kp,by simp[World.cell?_alloc_new],O.o.1,O.o.2.1,O.o.2.2⟩
    . have Kp:=b3.size;have V:=db (mX (iX (O2.o.alloc (cells #[.slice none 0 0] 22)) b3) w2.heap.size (.slice A2 (ac P).length c2) (λb I=>by have:=(O2.o.lt b I).2;omega)) (b':=wb.heap.size) ahF;have e3:=db (mX O3.o w2.heap.size (.slice A2 (ac P).length c2) (λb I=>by have:=(O3.o.lt b I).1;simp at this;omega)) (b':=wb.heap.size) (by simp;have:=H.size;omega);have e4:=((H.alloc H.size (cells #[.slice none 0 0] 22)).trans (b3.mono (by simp;have:=H.size;omega))).setCell (p:=w2.heap.size) H.size (.slice A2 (ac P).length c2);have O:=qh (And.intro V (And.intro e3 e4));clear V e3 e4;go_wp2_with fail;go_meet;case rel=>exact⟨_,_,rfl,H.size,World.cell?_setCell_same (u:= .slice none 0 0) _ _ _ (by rw[U5 _ _ ahF];simp[World.cell?_alloc_new]),O.o.1,O.o.2.1,O.o.2.2⟩
    . have Kp:=b3.size;have V:=db (mX (iX O2.o b3) wb.heap.size (.slice A2 (ac P).length c2) (λb I=>by have:=(O2.o.lt b I).1;simp at this;omega)) (b':=wb.heap.size) ahF;have e3:=db (mX O3.o wb.heap.size (.slice A2 (ac P).length c2) (λb I=>by have:=(O3.o.lt b I).1;omega)) (b':=wb.heap.size) H.size;have e4:=(H.trans (b3.mono H.size)).setCell (p:=wb.heap.size) (Nat.le_refl _) (.slice A2 (ac P).length c2);have O:=qh (And.intro V (And.intro e3 e4));clear V e3 e4;go_wp2_with fail;go_meet;case rel=>exact⟨_,_,rfl,Nat.le_refl _,World.cell?_setCell_same (u:= .slice none 0 0) _ _ _ (by rw[U5 _ _ ahE,Lt _ _ ahF];simp[World.cell?_alloc_new]),O.o.1,O.o.2.1,O.o.2.2⟩
  case rest=>
    clear Pz HQ bd c0 c1;obtain⟨g,v5,rfl,hg,Re,o5,o6,bc⟩:=hcut;have KD:=a7 P P.length;have MQ:(ac P).length<=32:=(by show(ay P P.length).length<=_;omega);have Qe:(pB P).length=P.length:=(by simp[pB]);have R5:=dJ o5 ahE;have R6:=dJ o6 ahE;have Sm:=qh R5;obtain⟨A5,c5,rfl,k5,_⟩:=cJ R5;obtain⟨A6,c6,rfl,k6,_⟩:=cJ R6;have f0:=(bc.cell (p:=w.heap.size) (show w.heap.size<wb.heap.size by omega)).trans HC.o.1;have f1:=(bc.cell (p:=⟨w.heap.size,1,none⟩) (show w.heap.size<wb.heap.size by omega)).trans HC.o.2;have Xd:=qh (Uu.o.below bc (Nat.le_refl _));have QJ:=qh (HB.o.trans (bc.mono HB.o.size));have RV:=qh (And.intro R5 R6);clear R5 R6 o5 o6 bc Uu HB HC;go_wp2;go_loopw [41] (λi wr=>∃j m:Nat,i= J j/\j<=(ac P).length/\evL P ((ac P).take j)=true/\wr=wc.drewN m) (λi _=>(ac P).length-(intOf i).toNat);case atStart=>exact⟨0,0,rfl,by omega,rfl,rfl⟩
    case round=>
      obtain⟨j,mm,rfl,hj,Ou,rfl⟩:=hrel;by_cases Mz:j<(ac P).length
      . obtain⟨b5,ax,XJ,ML,SU⟩:=ip RV.o.1 ahE;obtain⟨b6,bw,XK,Z2,SV⟩:=ip RV.o.2 (by rw[Qe];omega);subst XJ XK;obtain⟨x,hx⟩:=ak Mz;obtain⟨y,hy⟩:=ak (show 0<(ac P).length by omega);have L0:=jj (P:=P) (k:=P.length) (List.mem_of_getElem? hx);have Pq:=jj (P:=P) (k:=P.length) (List.mem_of_getElem? hy);obtain⟨x,rfl⟩:=Int.eq_ofNat_of_zero_le L0.2.1;obtain⟨y,rfl⟩:=Int.eq_ofNat_of_zero_le Pq.2.1;have q1:=SU j _ hx;have q2:=SU 0 _ hy;have q3:=SV x _ (by have:=wM (P:=P) L0.2.1 L0.2.2;simpa using this);have q4:=SV y _ (by have:=wM (P:=P) Pq.2.1 Pq.2.2;simpa using this);simp only[Nat.add_zero]at q2;have ad:x<P.length:=(by have:=L0.2.2;omega);have al:y<P.length:=(by have:=Pq.2.2;omega);have Tx:(ac P).take (j+1)=(ac P).take j++[(x:Int)]:=cj hx
        have Vj:((ac P).take j++[(x:Int)]).headD 0=(y:Int):=by
          rw[<-Tx];cases hl:ac P with
          | nil=>rw[hl]at hy;cases hy
          | cons a l=>rw[hl]at hy;simp at hy;simp[hy]
        have S2:=Au P ((ac P).take j) x;rw[Ou,Bool.true_and,Vj,<-Tx]at S2;obtain⟨d,hd⟩:∃d:Int,d=((depL P x:Nat):Int):=⟨_,rfl⟩;obtain⟨d0,Mb⟩:∃d:Int,d=((depL P y:Nat):Int):=⟨_,rfl⟩;rw[<-hd]at q3;rw[<-Mb]at q4;have HV:=qh (And.intro S2 (And.intro hd Mb));have SQ:evL P ((ac P).take (j+1))=false->kN P=false:=λh=>by have:=Dd (m:=(ac P).drop (j+1)) h;rwa [List.take_append_drop]at this
        have TW:=qh SQ;clear hx hy L0 Pq Tx Vj S2 hd Mb Ou SU SV SQ;cases e1:(d !=d0)
        . cases V:decide (5<d)
          . have Y:=qh (show evL P ((ac P).take (j+1))=true from by
              rw[HV.o.1];have:=HV.o.2;simp only[bne_eq_false_iff_eq,decide_eq_false_iff_not]at e1 V
              exact decide_eq_true ahE)
            go_wp2_with fail;go_quiet (fail);go_wp2;go_roundw;case rel=>exact⟨j+1,_,by go_num,by omega,Y.o,rfl⟩
            case measure=>simp[intOf];omega
          . have Y:=qh (r5 (T:=T) HM.o PD.o (TW.o (by
              rw[HV.o.1];have:=HV.o.2;simp only[decide_eq_true_eq]at V
              exact decide_eq_false ahE)))
            go_wp2_with fail;go_quiet (fail);go_wp2;go_ret;exact⟨bZ Y.o.symm,cl (cl QJ.o _) _⟩
        . have Y:=qh (r5 (T:=T) HM.o PD.o (TW.o (by
            rw[HV.o.1];have:=HV.o.2;simp only[bne_iff_ne]at e1
            exact decide_eq_false ahE)))
          go_wp2_with fail;go_quiet (fail);go_wp2;go_ret;exact⟨bZ Y.o.symm,cl (cl QJ.o _) _⟩
      . obtain rfl:j=(ac P).length:=by omega
        rw[List.take_length,<-Av]at Ou;have Y:=qh (CN (T:=T) HM.o PD.o Ou);have MM:=lR (wc.drewN mm) g _ _ (ac P) T (show(wc.drewN mm).cell? ⟨g,0,none⟩=_ from Re) (RV.o.1.drewN mm) (Xd.o.drewN mm);rw[Eb]at MM;clear Ou;cases RH:thrB P T;. rw[RH]at MM Y;have HC:=qh MM;clear MM RH;go_wp2_with (go_at_call 85;refine HC.o.mono ?_;rintro e w' ⟨rfl,rfl⟩);go_ret;exact⟨bZ Y.o.symm,cl QJ.o _⟩
        . rw[RH]at MM Y;have HC:=qh MM;clear MM RH;go_wp2_with (go_at_call 85;refine HC.o.mono ?_;rintro e w' ⟨rfl,rfl⟩);go_ret;exact⟨bZ Y.o.symm,cl QJ.o _⟩
def tT(w:World)(h H:Value)(P T:List Int)(Y:RdL w h 1 encI P)(hT:RdL w H 1 encI T):E 185 #[agg #[h,H]] w λe w'=>∃v,e= returned v/\w'.ownsRow w.heap.size 3 1 v (sI P T).length ((sI P T).flatMap encI)/\Below w.heap.size w w':=by
  have Jt:Below w.heap.size w (w.alloc (cells #[h,H] 24)):=(Below.refl _ _).alloc (Nat.le_refl _) _;have I:=qh (eR (w.alloc (cells #[h,H] 24)) h H P T (Y.alloc _) (hT.alloc _));have HP:=qh Y;have O:=qh Jt;obtain⟨AP,cP,rfl,TK,TL⟩:=cJ Y;obtain⟨AT,cT,rfl,Qr,Qs⟩:=cJ hT;clear Y hT Jt;go_enter func185,ntmps185;by_cases hc:a8 P T=0;. have HL:=qh (show sI P T=ac P from by unfold sI;rw[if_pos hc]);obtain⟨hm,ht,_,_⟩:=aQ hc;have J5:=bi hm;have HT:=qh ht;rw[hc]at I;clear hc hm ht;go_wp2_with fail;refine Pi I.o λw1 b1=>?_;have Lc:=(rU b1).1;have Ju:=b1.size;simp at Ju;have V:=qh (O.o.trans (b1.mono O.o.size));clear b1;go_wp2_with fail;refine(oe _ _ P (HP.o.below V.o (Nat.le_refl _)) HT.o ahE).mono ?_;rintro en w2 ⟨v2,rfl,o2,b2⟩;have HO:=qh (And.intro o2 b2);clear o2 b2;go_wp2;go_ret;exact⟨_,rfl,by rw[HL.o];exact db HO.o.1 ahE,V.o.trans (HO.o.2.mono ahE)⟩
  . have HL:=qh (show sI P T=[]from by unfold sI;rw[if_neg hc]);obtain⟨z,hz⟩:=LE (a8 P T);rw[<-hz]at I hc;have JF:(z !=0)=true:=(by simpa using hc);clear hc hz;go_wp2_with fail;refine Op I.o λw1 b1=>?_;have V:=qh (O.o.trans (b1.o.mono O.o.size));go_wp2;go_ret;exact⟨_,rfl,by rw[HL.o];exact World.ownsRow_nil _ _ _ _,V.o⟩
end
section
open Go.RowKit
def tz(w:World):(callFunc 202 #[]).run prog w= .ok (.value (tuple #[])) w:=run_call_mark0 func202 ahH ahH ahH .disable ahH w
def wZ(w:World):(callFunc 204 #[]).run prog w= .ok (.value (tuple #[])) w:=run_call_mark0 func204 ahH ahH ahH .enable ahH w
def rm(a:Addr)(w:World):(callFunc 205 #[.pointer (some a)]).run prog w= .ok (.value (tuple #[])) w:=run_call_marked func205 ahH ahH ahH .acquire ahH a w
def rp(a:Addr)(w:World):(callFunc 207 #[.pointer (some a)]).run prog w= .ok (.value (tuple #[])) w:=run_call_marked func207 ahH ahH ahH .releaseMerge ahH a w
def uJ(a:Addr)(w:World)(hc:w.cell? a=some (.int .i32 0))(H:w.frozen? a=false):E 198 #[.pointer (some a)] w λe w'=>e= returned (tuple #[])/\w'=w.setCell a (.int .i32 1):=by have hd:=tz;have Y:=wZ;have V:=rm;have I:=run_call_cas_hit (P:=prog) func203 ahH ahH ahH .i32 ahH (y:=1) hc H;have h:(w.setCell a (.int .i32 1)).cell? a=some (.int .i32 1):=World.cell?_setCell_same w a _ hc;have O:=run_convert_to_unsafe (P:=prog) (src:=381) (dst:=375) Tryz.underlying381 Tryz.underlying375 ahH h;go_enter func198,ntmps198;go_wp2;first|(go_end0;exact⟨rfl,rfl⟩)|exact bodyPost_ret (results_none rfl _ _ _) rfl ⟨rfl,rfl⟩|((simp only[Exit.inBlock,Exit.then]);exact bodyPost_ret (results_none rfl _ _ _) rfl ⟨rfl,rfl⟩)
def yq(a:Addr)(w:World)(hc:w.cell? a=some (.int .i32 0))(H:w.frozen? a=false):E 192 #[.pointer (some a)] w λe w'=>e= returned (tuple #[])/\w'=w.setCell a (.int .i32 1):=by have h:=qh (uJ a w hc H);go_enter func192,ntmps192;go_wp2_with fail;refine LT h.o ?_;go_wp2;first|(go_end0;exact⟨rfl,rfl⟩)|exact bodyPost_ret (results_none rfl _ _ _) rfl ⟨rfl,rfl⟩|((simp only[Exit.inBlock,Exit.then]);exact bodyPost_ret (results_none rfl _ _ _) rfl ⟨rfl,rfl⟩)
def qM(a:Addr)(w:World)(hc:w.cell? a=some (.int .i32 1))(h:w.frozen? a=false):E 199 #[.pointer (some a)] w λe w'=>e= returned (tuple #[])/\w'=w.setCell a (.int .i32 0):=by have hd:=tz;have O:=wZ;have V:=rp;have H:=run_call_add (P:=prog) func208 ahH ahH ahH .i32 ahH (y:= -1) (s:=0) hc h (by simp[go_sem];rfl);have I:=run_convert_to_unsafe (P:=prog) (src:=381) (dst:=375) Tryz.underlying381 Tryz.underlying375 ahH hc;go_enter func199,ntmps199;go_wp2;first|(go_end0;exact⟨rfl,rfl⟩)|exact bodyPost_ret (results_none rfl _ _ _) rfl ⟨rfl,rfl⟩|((simp only[Exit.inBlock,Exit.then]);exact bodyPost_ret (results_none rfl _ _ _) rfl ⟨rfl,rfl⟩)
def mG(a:Addr)(u:FrameMode)(w:World)(hc:w.cell? a=some (.int .i32 1))(H:w.frozen? a=false):CallsD prog 193 #[.pointer (some a)] u w λe I w'=>I=u/\(e= returned (tuple #[])/\w'=w.setCell a (.int .i32 0)):=by have h:=qh (qM a w hc H);go_enter_d func193,ntmps193;go_wp2_with fail;refine LT h.o ?_;go_wp2;first|(go_end0;exact⟨rfl,rfl⟩)|exact bodyPost_ret (results_none rfl _ _ _) rfl ⟨rfl,rfl⟩|((simp only[Exit.inBlock,Exit.then]);exact bodyPost_ret (results_none rfl _ _ _) rfl ⟨rfl,rfl⟩)
def oZ(a:Addr)(x:Value)(u:FrameMode)(w:World)(hc:w.cell? a=some x)(V:w.frozen? a=false):CallsD prog 194 #[.pointer (some a),bool true] u w λe I w'=>I=u/\(e= returned (tuple #[])/\w'=w.drew.setCell a (.int .u32 1)):=by
  have h:w.drew.cell? a=some x:=by go_simp
  have H:w.drew.frozen? a=false:=by go_simp
  have O:=run_call_store (P:=prog) func200 ahH ahH ahH ahH (k:= .u32) (y:=1) h H;go_enter_d func194,ntmps194;go_wp2;go_region_calls;all_goals (go_end0;exact⟨rfl,rfl⟩)
def lz(a:Addr)(n:Int)(w:World)(hc:w.cell? a=some (.int .u32 n)):E 183 #[.pointer (some a)] w λe w'=>e= returned (bool (n !=0))/\w=w':=by have h:=run_call_load (P:=prog) func191 ahH ahH ahH .u32 ahH hc;go_enter func183,ntmps183;exact aaa
end
section
open Go.RowKit
def dp(b off:Nat)(w2:World):World:=(w2.drew.setCell ⟨b,off,none⟩ (.int .u32 1)).setCell ⟨b,off+1,none⟩ (.int .i32 0)
structure rI(b off:Nat)(w:World):Prop where
 c0:w.cell? ⟨b,off,none⟩=some (.int .u32 0)
 c1:w.cell? ⟨b,off+1,none⟩=some (.int .i32 1)
 f0:w.frozen? ⟨b,off,none⟩=false
 f1:w.frozen? ⟨b,off+1,none⟩=false
def B9(b off H:Nat)(x:Value)(w:World)(R:World->Prop)(h0:Z w b off (.int .u32 0))(h1:Z w b (off+1) (.int .i32 0))(f0:w.frozen? ⟨b,off,none⟩=false)(f1:w.frozen? ⟨b,off+1,none⟩=false)(X7:H=170)(hc:E 170 #[x] (w.setCell ⟨b,off+1,none⟩ (.int .i32 1)) λe w2=>e= returned (tuple #[])/\rI b off w2/\R w2):E 184 #[pointer (some ⟨b,off,none⟩),.func (.func H) #[x] #[]] w λe w'=>e= returned (tuple #[])/\∃w2,R w2/\w'=dp b off w2:=by
  subst X7;have I:=qh hc;have V:=qh (lz ⟨b,off,none⟩ 0 (w.setCell ⟨b,off+1,none⟩ (.int .i32 1)) ((World.cell?_setCell_other _ ⟨b,off+1,none⟩ ⟨b,off,none⟩ _ ahF).trans h0));clear hc;go_enter_defers func184,ntmps184;go_wp2_with fail;refine LT (yq ⟨b,off+1,none⟩ _ h1 f1) ?_;go_wp2_with fail;refine LT V.o ?_;go_wp2_with fail;refine Op I.o λw2 h=>?_;go_wp2;refine leaves_cons (f:=194) (args:=#[pointer (some ⟨b,off,none⟩),bool true]) ahF (by simp[go_sem]) ?_;refine(oZ ⟨b,off,none⟩ (.int .u32 0) .returning _ h.o.1.c0 h.o.1.f0).mono ?_;rintro e u' Y ⟨rfl,rfl,rfl⟩;refine leaves_cons (f:=193) (args:=#[pointer (some ⟨b,off+1,none⟩)]) (by simp[settle]) (by simp[go_sem]) ?_;refine(mG ⟨b,off+1,none⟩ _ _ ?_ ?_).mono ?_;. exact(World.cell?_setCell_other _ ⟨b,off,none⟩ ⟨b,off+1,none⟩ _ ahF).trans h.o.1.c1
  . have:=h.o.1.f1;simp[this]
  rintro e u' Y ⟨rfl,rfl,rfl⟩;have O:∃w3,R w3/\(w2.drew.setCell ⟨b,off,none⟩ (.int .u32 1)).setCell ⟨b,off+1,none⟩ (.int .i32 0)=dp b off w3:=⟨w2,h.o.2,rfl⟩;simp[Leaves,settle,results,Tryz.results184];exact O
def sk(b off:Nat)(x:Value)(w:World)(R:World->Prop)(H:Z w b off (.int .u32 0))(h1:Z w b (off+1) (.int .i32 0))(f0:w.frozen? ⟨b,off,none⟩=false)(f1:w.frozen? ⟨b,off+1,none⟩=false)(hc:E 170 #[x] (w.setCell ⟨b,off+1,none⟩ (.int .i32 1)) λe w2=>e= returned (tuple #[])/\rI b off w2/\R w2):E 169 #[pointer (some ⟨b,off,none⟩),.func (.func 170) #[x] #[]] w λe w'=>e= returned (tuple #[])/\∃w2,R w2/\w'=dp b off w2:=by have O:=qh (B9 b off _ x w R H h1 f0 f1 rfl hc);have I:=qh (lz ⟨b,off,none⟩ 0 w H);clear hc;go_enter func169,ntmps169;go_wp2_with fail;refine LT I.o ?_;go_wp2_with fail;refine Op O.o λw' h=>?_;go_wp2;first|(go_end0;exact⟨rfl,h.o⟩)|exact bodyPost_ret (results_none rfl _ _ _) rfl ⟨rfl,h.o⟩
def C2(b off:Nat)(H:Value)(w:World)(I:Z w b off (.int .u32 1)):E 169 #[pointer (some ⟨b,off,none⟩),H] w λe w'=>e= returned (tuple #[])/\w=w':=by have h:=qh (lz ⟨b,off,none⟩ 1 w I);go_enter func169,ntmps169;go_wp2_with fail;refine LT h.o ?_;go_wp2;first|(go_end0;exact⟨rfl,rfl⟩)|exact bodyPost_ret (results_none rfl _ _ _) rfl ⟨rfl,rfl⟩
end
section
open Go.RowKit
def ye(l:List Int):∀u∈l.flatMap encI,u.oneCell'=true:=by intro u h;rw[iJ]at h;obtain⟨x,_,rfl⟩:=List.mem_map.1 h;rfl
def Bf(w:World):(w.alloc (cells #[] 3)).ownsRow w.heap.size 3 1 (slice (some ⟨w.heap.size,0,none⟩) 0 0) 0 []:=by exact⟨rfl,.inr ⟨w.heap.size,0,#[],rfl,Nat.le_refl _,heap_alloc_new w _,Nat.le_refl _,by simp[maxLen],rfl,rfl⟩⟩
def lE(w:World)(v:Value)(l:List Int)(h:RdL w v 1 encI l)(ZP:l.length<=1000):E 78 #[v] w λe w'=>∃v',e= returned v'/\w'.ownsRow w.heap.size 3 1 v' l.length (l.flatMap encI)/\Below w.heap.size w w':=by
  refine ajV ?_;intro i0 hi JF JH hz2 HI;clear hi JF JH hz2;have HR:=qh h;obtain⟨A,cap,rfl,l1,l2,V⟩:=h;cases A with
  | none=>
    have hl:l=[]:=by
      rcases Nat.eq_zero_or_pos l.length with O|O
      . exact List.eq_nil_of_length_eq_zero O
      . obtain⟨b,off,e,_⟩:=V O;cases e
    subst hl;clear V HR;simp only[List.length_nil];have hn:=Lib.run_eql_slice_nil w 22 3 none 0 cap 0 0 Tryz.underlying22;simp only[Option.isNone]at hn;go_enter func78,ntmps78;go_wp2;go_ret;exact⟨_,rfl,World.ownsRow_nil _ _ _ _,Below.refl _ _⟩
  | some I=>
    have HN:=qh (show ∀(j:Nat) (u:Value),(l.flatMap encI)[j]? =some u->w.cell? (I.add j)=some u from by
      intro j u H;have Y:j<l.length:=(by have:=(List.getElem?_eq_some_iff.1 H).1;rw[iJ]at this;simpa using this);obtain⟨b,off,e,_,hc⟩:=V ahE;injection e with e;subst e;obtain⟨x,hx⟩:=ak Y;have h1:=hc j x hx 0 _ rfl;rw[iJ]at H;simp[hx]at H;subst H;have e2:(⟨b,off,none⟩:Addr).add j=⟨b,off+j,none⟩:=(by unfold Addr.add;by_cases Vm:j=0<;>simp[Vm]);rw[e2]
      simpa using h1)
    have KD:(l.flatMap encI).length=l.length*1:=(by rw[iJ];simp);have hn:=Lib.run_eql_slice_nil w 22 3 (some I) l.length cap 0 0 Tryz.underlying22;simp only[Option.isNone]at hn;clear V;go_enter func78,ntmps78;go_wp2_with (at_builtin;go_loud (refine wpList_append_own _ rfl _ _ 22 rfl w.heap.size 3 i0 (J 0) 1 8 Tryz.underlying22 HI.o.1 HI.o.2.1 HI.o.2.2.1 HI.o.2.2.2 rfl ahG _ 0 [] rfl (Bf w) I l.length cap (l.flatMap encI) rfl KD ?c1 (ye l) ?c3 ?c4 ?c5 ?_));case c1=>exact λj u H=>(World.cell?_alloc_lt _ _ _ (by have:=aT (HN.o j u H);exact this)).trans (HN.o j u H)
    case c3=>unfold maxLen;omega
    case c4=>omega
    case c5=>simp
    intro v' w' MB Mw OA;have HO:=qh (And.intro MB Mw);clear MB Mw OA;go_wp2;go_ret;exact⟨_,rfl,by have:=HO.o.1;simpa using this,(((Below.refl _ _).alloc (Nat.le_refl _) _).grown HO.o.2 ahF (λj Y=>by simp[Value.ownBlock]at Y;omega))⟩
end
section
open Go.RowKit
def RdL.turns{α:Type}{w:World}{v:Value}{enc:α->List Value}{l:List α}{S:List Nat}(h:RdL w v sz enc l)(k:aa S w w')(hn:∀g,v.ownBlock=some g->g∉S):RdL w' v sz enc l:=by obtain⟨A,cap,rfl,H,O,V⟩:=h;refine⟨A,cap,rfl,H,O,λhl=>?_⟩;obtain⟨b,off,rfl,I,hc⟩:=V hl;have Y:b∉S:=hn b rfl;refine⟨b,off,rfl,Nat.lt_of_lt_of_le I k.size,λi x hx j u hu=>?_⟩;rw[World.cell?_of_block (w:=w) (w':=w') (a:=⟨b,off+i*sz+j,none⟩) (k.block b I Y)];exact hc i x hx j u hu
def rf:Value:= .slice none 0 0
structure IW(w:World)(b:Nat)(P T:List Int):Prop where
 ex:∃AP cP AT cT,Blk w b 213 #[.slice AP P.length cP,.slice AT T.length cT,.int .u32 0,.int .i32 0,.int .u32 0,.slice none 0 0,.slice none 0 0,.slice none 0 0,.slice none 0 0]/\RdL w (.slice AP P.length cP) 1 encI P/\RdL w (.slice AT T.length cT) 1 encI T/\(∀g,(Value.slice AP P.length cP).ownBlock=some g->g≠b)/\(∀g,(Value.slice AT T.length cT).ownBlock=some g->g≠b)
end
section
open Go.RowKit
structure eK where
 e:TypeId
 v:Value
 n:Nat
 xs:List Value
structure gb(w:World)(B b:Nat)(l:List eK):Prop where
 own:∀r∈l,w.ownsRow B r.e 1 r.v r.n r.xs
 ne:∀(i j:Nat) (r s:eK),l[i]? =some r->l[j]? =some s->i≠j->∀g,r.v.ownBlock=some g->s.v.ownBlock≠some g
 nb:∀r∈l,r.v.ownBlock≠some b
section
variable{w:World}{B:Nat}{l:List eK}
def gb.below(h:gb w B b l)(k:Below w.heap.size w w'):gb w' B b l:=⟨λr V=>iX (h.own r V) k,h.ne,h.nb⟩
def gb.turn(h:gb w B b l)(k:aa [b] w w'):gb w' B b l:=
 ⟨λr V=>aa.own (h.own r V) k (λg hg hm=>h.nb r V (by simp at hm;rw[<-hm];exact hg)),h.ne,h.nb⟩
def gb.app(h:gb w B b l){r:eK}(hi:l[i]? =some r)(I:b<w.heap.size)(hg:w.grownBy w' r.v.ownBlock){v':Value}{n':Nat}{xs':List Value}(Y:w'.ownsRow B r.e 1 v' n' xs')(LB:v'.ownBlock=r.v.ownBlock\/∃g,w.heap.size<=g/\v'.ownBlock=some g):gb w' B b (l.set i ⟨r.e,v',n',xs'⟩):=by
  have LQ:i<l.length:=(List.getElem?_eq_some_iff.1 hi).1;have I':∀s∈l,∀g,s.v.ownBlock=some g->g<w.heap.size:=λs hs g hg=>((h.own s hs).lt g hg).2
  have Lw:∀(j:Nat) (s:eK),(l.set i ⟨r.e,v',n',xs'⟩)[j]? =some s->(j=i/\s=⟨r.e,v',n',xs'⟩)\/(j≠i/\l[j]? =some s):=λj s H=>by
    rw[List.getElem?_set]at H;by_cases e:i=j;. subst e;rw[if_pos rfl,if_pos LQ]at H;injection H with H;exact .inl ⟨rfl,H.symm⟩
    . rw[if_neg e]at H;exact .inr ⟨λh=>e h.symm,H⟩
  have Rw:∀(j:Nat) (s:eK),l[j]? =some s->j≠i->w'.ownsRow B s.e 1 s.v s.n s.xs:=λj s H V=>by
    cases O:r.v.ownBlock with
    | none=>rw[O]at hg;exact aa.own (S:=[]) (h.own s (List.mem_of_getElem? H)) ⟨hg.os,hg.tape,hg.output,hg.size,λi hi _=>hg.block i hi ahF⟩ (λ_ _=>by simp)
    | some g=>
      rw[O]at hg
      exact aa.own (h.own s (List.mem_of_getElem? H)) (aa.grown hg) (λg' M' hm=>by
        simp at hm;subst hm
        exact h.ne i j r s hi H (λe=>V e.symm) g' O M')
  have Tj:∀g,v'.ownBlock=some g->r.v.ownBlock=some g\/w.heap.size<=g:=λg M'=>by
    rcases LB with e|⟨c,hc,e⟩
    . exact .inl (by rw[<-e];exact M')
    . rw[e]at M';injection M' with M';exact .inr ahE
  refine⟨λs hs=>?_,λj k s t H hk V g Qb KM=>?_,λs hs Kr=>?_⟩
  . obtain⟨j,H⟩:=List.getElem?_of_mem hs;rcases Lw j s H with⟨rfl,rfl⟩|⟨e,LI⟩
    . exact Y
    . exact Rw j s LI e
  . rcases Lw j s H with⟨rfl,rfl⟩|⟨e1,LI⟩
    . rcases Lw k t hk with⟨rfl,rfl⟩|⟨e2,JS⟩
      . exact V rfl
      . rcases Tj g Qb with hx|hx
        . exact h.ne j k r t hi JS V g hx KM
        . have:=I' t (List.mem_of_getElem? JS) g KM;omega
    . rcases Lw k t hk with⟨rfl,rfl⟩|⟨e2,JS⟩
      . rcases Tj g KM with hx|hx
        . exact h.ne j k s r LI hi V g Qb hx
        . have:=I' s (List.mem_of_getElem? LI) g Qb;omega
      . exact h.ne j k s t LI JS V g Qb KM
  . obtain⟨j,H⟩:=List.getElem?_of_mem hs;rcases Lw j s H with⟨rfl,rfl⟩|⟨e,LI⟩
    . rcases Tj b Kr with hx|hx
      . exact h.nb r (List.mem_of_getElem? hi) hx
      . omega
    . exact h.nb s (List.mem_of_getElem? LI) Kr
def gb.push(h:gb w B b l)(e:TypeId):gb w B b (l++[⟨e,.slice none 0 0,0,[]⟩]):=by
 have O:∀(j:Nat) (s:eK),(l++[⟨e,.slice none 0 0,0,[]⟩])[j]? =some s->l[j]? =some s\/s=⟨e,.slice none 0 0,0,[]⟩:=λj s H=>by
  rw[List.getElem?_append]at H;split at H;.exact .inl H
  .rw[List.getElem?_singleton]at H;split at H;.injection H with H;exact .inr H.symm
   .cases H
 refine⟨λr V=>?_,λi j r s hi H I g h1 Y=>?_,λr V=>?_⟩
 .rcases List.mem_append.1 V with V|V
  .exact h.own r V
  .simp at V;subst V;exact World.ownsRow_nil _ _ _ _
 .rcases O i r hi with a|a
  .rcases O j s H with c|c
   .exact h.ne i j r s a c I g h1 Y
   .subst c;cases Y
  .subst a;cases h1
 .rcases List.mem_append.1 V with V|V
  .exact h.nb r V
  .simp at V;subst V;simp[Value.ownBlock]
end
def upF(P:List Int):Nat->Int->List Int
 |0,_=>[]
 |f+1,v=>if 0<=v/\v<P.length then v :: upF P f (P.getD v.toNat 0)else[]
def upL(P:List Int)(v:Int):List Int:=upF P P.length v
def ao(P T:List Int)(k:Nat):List Int:=(T.take k).map (fI (ac P))
def cI(T:List Int)(i:Nat):Int:=(((T.take i).count (T.getD i 0):Nat):Int)
def aZ(T:List Int)(k:Nat):List Int:=(List.range k).map (cI T)
def aH(P T:List Int)(k:Nat):List Int:=(ac P).map λleaf=>(((T.take k).count leaf:Nat):Int)
def pm{P:List Int}(h:dZ P=true):∀(f:Nat) (v:Int),v<f->∀g:Nat,v<g->upF P f v=upF P g v
 |0,v,O,g,hg=>by
  cases g with
  |zero=>rfl
  |succ g=>unfold upF;rw[if_neg ahE]
 |f+1,v,O,g,hg=>by
  cases g with
  |zero=>unfold upF;rw[if_neg ahE]
  |succ g=>
   unfold upF;split;.rename_i I;obtain⟨p,H⟩:=ak (show v.toNat<P.length by omega);have:=gD h H;rw[bH H,pm h f p ahE g ahE]
   .rfl
def gq(h:dZ P=true){v:Nat}(H:P[v]? =some p):upL P v=(v:Int) :: upL P p:=by
 have I:=(List.getElem?_eq_some_iff.1 H).1;have O:=gD h H;unfold upL;rw[pm h P.length v ahE (v+1) ahE];show(if 0<=(v:Int)/\(v:Int)<P.length then(v:Int) :: upF P v (P.getD (v:Int).toNat 0)else[])=_;rw[if_pos ahE,Int.toNat_natCast,bH H];by_cases V:0<=p;.rw[pm h v p ahE P.length ahE]
 .cases v with
  |zero=>show _ :: []=_ :: upF P P.length p;exact aas
  |succ v=>
   cases hn:P.length with
   |zero=>omega
   |succ n=>unfold upF;rw[if_neg ahE,if_neg ahE]
def xm(h:p<0):upL P p=[]:=by unfold upL;exact aas
end
section
open Go
structure HOk(nd n:Nat)(dl:Int)(node:Nat->Nat)(h:Hc)(N:Nat)(G:Nat->List Nat):Prop where
 iv:HIv nd n node h.ar.W h.D h.S G
 ops:h.ar.ops<=N
 dn:∀t,dv h.D t<=N
 bb:∀t,t<n->(sv h.S t).pc=2->(sv h.S t).b<=dl
structure StH(n:Nat)(node:Nat->Nat)(p p':Sp)(i:Nat)(Q Q':List Nat):Prop where
 row:p.pc=1->p'.pc=5->∃(t:Nat) (d:Int),t<n/\node t=node i/\0<=d/\p'.a=tokH t d
 stay:p.pc≠4->p.pc≠11->Q'=Q
 splice:p.pc=4->(∃r,Q'=Q++i :: r)/\(p'.pc=10->Q=[])
 gone:p.pc=11->Q.head? =some i/\Q'=Q.tail
 enter:p'.pc=10->p.pc≠10->p.pc=4\/(p.pc=5/\Q.head? =some i)
 look:p.pc=5->Q.head? =some i->p'.pc=10
 only:p.pc=1\/p.pc=2\/p.pc=3\/p.pc=4\/p.pc=5\/p.pc=11
 less:p.pc≠5->p'.pc=p.pc->p'.pc=2/\p'.b=p.b-1/\1<=p'.b
 next:p'.pc=p.pc\/(p.pc=1/\(p'.pc=2\/p'.pc=3\/p'.pc=5))\/(p.pc=2/\p'.pc=3)\/(p.pc=3/\p'.pc=4)\/(p.pc=4/\(p'.pc=5\/p'.pc=10))\/(p.pc=5/\p'.pc=10)\/(p.pc=11/\p'.pc=0)
section
variable{nd n N:Nat}{dl:Int}{node:Nat->Nat}{h:Hc}{G:Nat->List Nat}
def sx{p:Sp}:im p=true↔(p.pc=1\/p.pc=2\/p.pc=3\/p.pc=4\/p.pc=5\/p.pc=11):=by unfold im;simp[or_assoc]
def GT(s:Ar)(f:Int)(n:Nat)(w:Int):(isA s f n w).W=s.W:=by unfold isA;split<;>simp[aP]
def qL(s:Ar)(f:Int)(n:Nat)(w:Int):(isA s f n w).ops<=s.ops+1:=by unfold isA;split<;>simp[iP]
def HOk.bset(k:HOk nd n dl node h N G)(hi:i<n){p':Sp}(I:p'.pc=2->p'.b<=dl):∀t,t<n->(sv (h.S.set i p') t).pc=2->(sv (h.S.set i p') t).b<=dl:=λt O H=>by
 by_cases e:t=i
 .subst e
  rw[qk (by rw[k.iv.sl];exact hi)]at H ⊢
  exact I H
 .rw[cf e]at H ⊢;exact k.bb t O H
def HOk.step(k:HOk nd n dl node h N G)(hN:N<1000000)(hi:i<n)(hg:im (sv h.S i)=true)(x:Ar×List Int×Sp)(hx:x=bm nd n dl h (node i) i (sv h.S i)):∃G',HOk nd n dl node ⟨x.1,x.2.1,h.S.set i x.2.2⟩ (N+1) G'/\StH n node (sv h.S i) x.2.2 i (G 0) (G' 0):=by
  have O:=k.iv.nn i hi;have Ko:=GU (W:=h.ar.W) (n:=n) k.iv.wl O;have Ju:=λy=>Il (W:=h.ar.W) (n:=n) k.iv.wl O y;have Mv:∀t,dv h.D t<=(N+1:Nat):=λt=>by have:=k.dn t;omega
  have Mf:∀{s:Ar},s.ops<=h.ar.ops+1->s.ops<=N+1:=λhs=>by have:=k.ops;omega
  rcases sx.1 hg with e|e|e|e|e|e
  . have H:x=(ch h.ar (2+(node i:Int)) (tokH i (dv h.D i+1)),h.D,
      if lc h.ar.W (node i)≠0 then {sv h.S i with a:=lc h.ar.W (node i),pc:=5} else if 0<dl then {sv h.S i with a:=lc h.ar.W (node i),b:=dl,pc:=2} else {sv h.S i with a:=lc h.ar.W (node i),b:=0,pc:=3}):=by
      rw[hx];unfold bm;rw[if_pos e,Ko]
    by_cases c:lc h.ar.W (node i)=0
    . have MY:x.2.2=if 0<dl then {sv h.S i with a:=lc h.ar.W (node i),b:=dl,pc:=2} else {sv h.S i with a:=lc h.ar.W (node i),b:=0,pc:=3}:=by rw[H];simp only[c,ne_eq,not_true,if_false]
      have Y:(x.2.2.pc=2/\0<x.2.2.b)\/x.2.2.pc=3:=by
        rw[MY];split;. rename_i NA;exact .inl ⟨rfl,NA⟩
        . exact .inr rfl
      have I:x.2.2.pc=2->x.2.2.b<=dl:=by
        rw[MY];split;. intro _;exact Int.le_refl _
        . intro h2;exact absurd h2 (by show ¬(3:Int)=2;decide)
      refine⟨upd G (i+1) [i],⟨?_,by rw[H];exact Mf (eY _ _ _),by rw[H];exact Mv,k.bset hi I⟩,?_⟩;. have:=k.iv.s1a hi e c Y;show HIv nd n node x.1.W x.2.1 _ _;rw[show x.1.W=h.ar.W.set (1+node i) (tokH i (dv h.D i+1))by rw[H];show(ch _ _ _).W=_;rw[dK,Ju],show x.2.1=h.D by rw[H]];exact this
      . have h5:¬x.2.2.pc=5:=(by omega);refine⟨λ_ h=>absurd h h5,λ_ _=>pr _ _ ahE,λh=>by omega,λh=>by omega,λh=>by omega,λh=>by omega,.inl e,λ_ h=>by omega,by omega⟩
    . have MY:x.2.2={sv h.S i with a:=lc h.ar.W (node i),pc:=5}:=(by rw[H];simp only[c,ne_eq,not_false_iff,if_true]);obtain⟨m,t,hm,ht,Rq,NF,S9⟩:=k.iv.s1b (p':=x.2.2) hi e c (by rw[MY]) (by rw[MY]);have h5:x.2.2.pc=5:=(by rw[MY]);refine⟨upd G (m+1) (G (m+1)++[i]),⟨?_,by rw[H];exact Mf (eY _ _ _),by rw[H];exact Mv,k.bset hi ahE⟩,?_⟩;. show HIv nd n node x.1.W x.2.1 _ _;rw[show x.1.W=h.ar.W.set (1+node i) (tokH i (dv h.D i+1))by rw[H];show(ch _ _ _).W=_;rw[dK,Ju],show x.2.1=h.D by rw[H]];exact S9
      . exact⟨λ_ _=>⟨t,_,k.iv.lt _ t ht,Rq,by have:=k.iv.d0 t;omega,NF⟩,λ_ _=>pr _ _ ahE,λh=>by omega,λh=>by omega,λh=>by omega,λh=>by omega,.inl e,λ_ h=>by omega,by omega⟩
  . have H:x=(h.ar,h.D,{sv h.S i with b:=(sv h.S i).b-1,pc:=if 0<(sv h.S i).b-1 then 2 else 3}):=by rw[hx];unfold bm;rw[if_neg ahE,if_pos e]
    have Y:(x.2.2.pc=2/\0<x.2.2.b)\/x.2.2.pc=3:=by
      rw[H];show((if _ then(2:Int)else 3)=2/\_)\/(if _ then(2:Int)else 3)=3;split;. rename_i I;exact .inl ⟨rfl,I⟩
      . exact .inr rfl
    have I:x.2.2.b=(sv h.S i).b-1:=(by rw[H]);have:=k.bb i hi e;refine⟨G,⟨?_,by rw[H];exact Mf (Nat.le_succ _),by rw[H];exact Mv,k.bset hi ahE⟩,⟨λh=>by omega,λ_ _=>rfl,λh=>by omega,λh=>by omega,λh=>by omega,λh=>by omega,.inr (.inl e),λ_ h=>by omega,by omega⟩⟩;show HIv nd n node x.1.W x.2.1 _ _;rw[show x.1.W=h.ar.W by rw[H],show x.2.1=h.D by rw[H]];exact k.iv.s2 hi e Y
  . have H:x=(ch h.ar (2+(node i:Int)) 0,h.D,{sv h.S i with c:=lc h.ar.W (node i),pc:=4}):=(by rw[hx];unfold bm;rw[if_neg ahE,if_neg ahE,if_pos e,Ko]);have Y:x.2.2.pc=4:=(by rw[H]);refine⟨G,⟨?_,by rw[H];exact Mf (eY _ _ _),by rw[H];exact Mv,k.bset hi ahE⟩,⟨λh=>by omega,λ_ _=>rfl,λh=>by omega,λh=>by omega,λh=>by omega,λh=>by omega,.inr (.inr (.inl e)),λ_ h=>by omega,by omega⟩⟩;show HIv nd n node x.1.W x.2.1 _ _;rw[show x.1.W=h.ar.W.set (1+node i) 0 by rw[H];show(ch _ _ _).W=_;rw[dK,Ju],show x.2.1=h.D by rw[H]];exact k.iv.s3 hi e Y (by rw[H])
  . have H:x=(ch h.ar 1 (sv h.S i).c,h.D,{sv h.S i with a:=tl h.ar.W,pc:=if tl h.ar.W=0 then 10 else 5}):=by rw[hx];unfold bm;rw[if_neg ahE,if_neg ahE,if_neg ahE,if_pos e,Fj k.iv.wl]
    have Y:(tl h.ar.W=0/\x.2.2.pc=10)\/(tl h.ar.W≠0/\x.2.2.pc=5):=by
      rw[H];by_cases c:tl h.ar.W=0;. exact .inl ⟨c,by show(if _ then(10:Int)else 5)=10;rw[if_pos c]⟩
      . exact .inr ⟨c,by show(if _ then(10:Int)else 5)=5;rw[if_neg c]⟩
    obtain⟨⟨r,V⟩,he,S9⟩:=k.iv.s4 (p':=x.2.2) hi e Y (by rw[H]);refine⟨spl G i,⟨?_,by rw[H];exact Mf (eY _ _ _),by rw[H];exact Mv,k.bset hi ahE⟩,⟨λh=>by omega,λh=>by omega,λ_=>⟨⟨r,by rw[yL,V]⟩,he⟩,λh=>by omega,λ_ _=> .inl e,λh=>by omega,.inr (.inr (.inr (.inl e))),λ_ h=>by omega,by omega⟩⟩;show HIv nd n node x.1.W x.2.1 _ _;rw[show x.1.W=h.ar.W.set 0 (sv h.S i).c by rw[H];show(ch _ _ _).W=_;rw[dK,FU k.iv.wl],show x.2.1=h.D by rw[H]];exact S9
  . have H:x=(isA h.ar (2+(nd:Int)) n (sv h.S i).a,h.D,{sv h.S i with pc:=if isB h.ar.W (2+(nd:Int)) n (sv h.S i).a then 10 else 5}):=(by rw[hx];unfold bm;rw[if_neg ahE,if_neg ahE,if_neg ahE,if_neg ahE,if_pos e]);have hW:x.1.W=h.ar.W:=(by rw[H];exact GT _ _ _ _);have hD:x.2.1=h.D:=(by rw[H]);cases c:isB h.ar.W (2+(nd:Int)) n (sv h.S i).a
    . have MY:x.2.2=sv h.S i:=(by rw[H,c];exact FT e.symm rfl rfl rfl);have Yy:¬(G 0).head? =some i:=λhf=>by rw[k.iv.s5n hf e]at c;cases c
      refine⟨G,⟨?_,by rw[H];exact Mf (qL _ _ _ _),by rw[hD];exact Mv,k.bset hi (by rw[MY];omega)⟩,⟨λh=>by omega,λ_ _=>rfl,λh=>by omega,λh=>by omega,λh=>by rw[MY]at h;omega,λ_ hf=>absurd hf Yy,.inr (.inr (.inr (.inr (.inl e)))),λh=>absurd e h,by rw[MY];exact .inl rfl⟩⟩;show HIv nd n node x.1.W x.2.1 _ _;rw[hW,hD];exact k.iv.same5 hi MY
    . have Y:x.2.2.pc=10:=(by rw[H,c];rfl);have hf:=k.iv.s5 hi e c;refine⟨G,⟨?_,by rw[H];exact Mf (qL _ _ _ _),by rw[hD];exact Mv,k.bset hi ahE⟩,⟨λh=>by omega,λ_ _=>rfl,λh=>by omega,λh=>by omega,λ_ _=> .inr ⟨e,hf⟩,λ_ _=>Y,.inr (.inr (.inr (.inr (.inl e)))),λh=>absurd e h,by omega⟩⟩;show HIv nd n node x.1.W x.2.1 _ _;rw[hW,hD];exact k.iv.atFrontP hi hf (.inl Y)
  . have H:x=(addA h.ar (2+(nd:Int)+i) 1,h.D.set i (dv h.D i+1),{sv h.S i with pc:=0}):=(by rw[hx];unfold bm;rw[if_neg ahE,if_neg ahE,if_neg ahE,if_neg ahE,if_neg ahE]);have Y:x.2.2.pc=0:=(by rw[H]);have hf:=k.iv.atFront hi (.inr e);have NA:i<h.D.length:=(by have:=k.iv.dl;omega);have hw:IntKind.i64.wrap (ldW h.ar.W (2+(nd:Int)+i)+1)=dv h.D i+1:=(by rw[Eu k.iv.wl hi,k.iv.tw i hi];have:=k.iv.d0 i;have:=k.dn i;exact IntWalk.i64_in _ ahE);refine⟨upd G 0 (G 0).tail,⟨?_,by rw[H];exact Mf (ju _ _ _),?_,k.bset hi ahE⟩,⟨λh=>by omega,λ_ h=>by omega,λh=>by omega,λ_=>⟨hf,cy _ _ _⟩,λh=>by omega,λh=>by omega,.inr (.inr (.inr (.inr (.inr e)))),λ_ h=>by omega,by omega⟩⟩;. show HIv nd n node x.1.W x.2.1 _ _;rw[show x.1.W=h.ar.W.set (1+nd+i) (dv h.D i+1)by rw[H];show(addA _ _ _).W=_;rw[dT,hw,Im k.iv.wl hi],show x.2.1=h.D.set i (dv h.D i+1)by rw[H]];exact k.iv.s11 hi hf Y _ rfl
    . rw[H];intro t;show dv (h.D.set i (dv h.D i+1)) t<=_;rw[Am NA];have:=k.dn i;split;. omega
      . exact Mv t
end
end
section
open Go.RowKit
def oI(b:Int)(w:World)(I:0<=b)(h1:b<=1000):E 135 #[J b] w λe w'=>e= returned (bool true)/\w=w':=by
 have h:E 171 #[J b,J 0,J 1000] w λe w'=>e= returned (bool true)/\w=w':=by exact aau
 have H:=qh h;clear h;exact aav
end
section
open Go
variable{s s':Ar}{p:Sp}
def WdB(B:Int)(s:Ar):Prop:=∀v∈s.W,0<=v/\v<=B
structure SpB(k:Nat)(B:Int)(p:Sp):Prop where
 a0:0<=p.a
 a1:p.a<=B
 b0:-B<=p.b
 b1:p.b<=B
 b2:k≠1->0<=p.b
def WdB.mono(h:WdB B s)(H:B<=C):WdB C s:=λv O=>⟨(h v O).1,by have:=(h v O).2;omega⟩
def SpB.mono(h:SpB k B p)(H:B<=C):SpB k C p:=⟨h.a0,by have:=h.a1;omega,by have:=h.b0;omega,by have:=h.b1;omega,h.b2⟩
def WdB.ld(h:WdB B s)(O:0<=B)(x:Int):0<=ldW s.W x/\ldW s.W x<=B:=by
 by_cases H:inR s.W x=true
 .rw[jg H];obtain⟨h1,V⟩:=aR.1 H;have I:x.toNat-1<s.W.length:=by omega
  rw[List.getD_eq_getElem?_getD,List.getElem?_eq_getElem I];exact h _ (List.getElem_mem I)
 .rw[kS (by simpa using H)];exact⟨Int.le_refl _,O⟩
def WdB.st(h:WdB B s)(x v:Int)(O:0<=v/\v<=B)(e:s'.W=stW s.W x v):WdB B s':=by
 intro u H;rw[e]at H;unfold stW at H;split at H
 .rcases List.mem_or_eq_of_mem_set H with h1|h1
  .exact h u h1
  .rw[h1];exact O
 .exact h u H
def WdB.same(h:WdB B s)(e:s'.W=s.W):WdB B s':=by intro u H;rw[e]at H;exact h u H
def WdB.load(h:WdB B s)(x:Int):WdB B (af s x):=h.same (aP _ _)
def WdB.store(h:WdB B s)(x v:Int)(O:0<=v/\v<=B):WdB B (ae s x v):=h.st x v O (aw _ _ _)
def WdB.swap(h:WdB B s)(x v:Int)(O:0<=v/\v<=B):WdB B (ch s x v):=h.st x v O (dK _ _ _)
def WdB.cas(h:WdB B s)(x o v:Int)(O:0<=v/\v<=B):WdB B (dR s x o v):=by
 have e:=gL s x o v;split at e;.exact h.st x v O e
 .exact h.same e
def WdB.add1(h:WdB B s)(H:0<=B)(I:B<=10000000000000)(x:Int):WdB (B+2) (addA s x 1):=by have O:=h.ld H x;refine(h.mono ahE).st x _ ?_ (dT _ _ _);rw[IntWalk.i64_in _ ahE];omega
def qu{t m:Int}{i:Int}(hW:WdB B s)(Y:SpB k B p)(hB:0<=B)(Kc:B<=10000000000000)(hi:0<=i/\i+1<=B)(hm:1<=m/\m<=B):WdB (B+2) (bJ k t m s i p).1/\SpB k (B+2) (bJ k t m s i p).2:=by
  have I:WdB (B+2) s:=hW.mono ahE;have V:=λx=>hW.ld hB x;have H:SpB k (B+2) p:=Y.mono ahE;have KL:=Y.a0;have Q0:=Y.a1;have Jt:=Y.b0;have JY:=Y.b1;have Ma:=Y.b2;unfold bJ;split
  . rename_i hk;unfold vF;split
    . refine⟨I.cas _ _ _ ahE,?_⟩;split;. exact⟨by simpa using KL,by show p.a<=_;omega,by show _<=p.b;omega,by show p.b<=_;omega,λh=>absurd hk h⟩
      . refine⟨?_,?_,?_,?_,λh=>absurd hk h⟩;. show 0<=min (2*p.a) m;omega
        . show min (2*p.a) m<=_;omega
        . show _<=p.a;omega
        . show p.a<=_;omega
    split
    . refine⟨I,?_,?_,?_,?_,λh=>absurd hk h⟩;. exact KL
      . show p.a<=_;omega
      . show _<=p.b-1;omega
      . show p.b-1<=_;omega
    split;. exact⟨I.store _ _ ahE,H.a0,H.a1,H.b0,H.b1,H.b2⟩
    . exact⟨I,H⟩
  split
  . unfold ph;split;. exact⟨hW.add1 hB Kc _,(V _).1,by have:=(V t).2;show ldW s.W t<=_;omega,H.b0,H.b1,H.b2⟩
    split;. exact⟨I.load _,H.a0,H.a1,H.b0,H.b1,H.b2⟩
    split;. exact⟨I.store _ _ ahE,H.a0,H.a1,H.b0,H.b1,H.b2⟩
    . exact⟨I,H⟩
  split
  . unfold oD;split;. exact⟨hW.add1 hB Kc _,(V _).1,by have:=(V t).2;show ldW s.W t<=_;omega,H.b0,H.b1,H.b2⟩
    split;. exact⟨I.load _,H.a0,H.a1,H.b0,H.b1,H.b2⟩
    split;. exact⟨I.store _ _ ahE,H.a0,H.a1,H.b0,H.b1,H.b2⟩
    . exact⟨I,H⟩
  have O:∀x:Int,ldW s.W x<=B+2:=λx=>by have:=(V x).2;omega
  split
  . unfold mg;split
    . unfold eH;split;. exact⟨I.store _ _ ahE,H.a0,H.a1,H.b0,H.b1,H.b2⟩
      split;. exact⟨I.store _ _ ahE,H.a0,H.a1,H.b0,H.b1,H.b2⟩
      split;. exact⟨I.swap _ _ ahE,(V _).1,O _,H.b0,H.b1,H.b2⟩
      split;. exact⟨I.store _ _ ahE,H.a0,H.a1,H.b0,H.b1,H.b2⟩
      . exact⟨I.load _,H.a0,H.a1,H.b0,H.b1,H.b2⟩
    split
    . unfold dH;split;. exact⟨I.cas _ _ _ ahE,H.a0,H.a1,H.b0,H.b1,H.b2⟩
      split;. exact⟨I.store _ _ ahE,H.a0,H.a1,H.b0,H.b1,H.b2⟩
      . exact⟨I.load _,(V _).1,O _,H.b0,H.b1,H.b2⟩
    . exact⟨I,H⟩
  . rename_i hk _ _ _;unfold ut;split;. exact⟨I.store _ _ ahE,H.a0,H.a1,H.b0,H.b1,H.b2⟩
    split;. exact⟨I.swap _ _ ahE,H.a0,H.a1,by show _<=ldW s.W t;have:=(V t).1;omega,O _,λ_=>(V _).1⟩
    split;. exact⟨I.load _,H.a0,H.a1,H.b0,H.b1,H.b2⟩
    split;. exact⟨I.store _ _ ahE,Ma hk,H.b1,H.b0,H.b1,H.b2⟩
    . exact⟨I,H⟩
def ug(h:SpB k B p)(H:1<=B):SpB k B (askK k p):=by
 unfold askK;split
 .split;.exact⟨by show(0:Int)<=1;omega,H,h.b0,h.b1,h.b2⟩
  .exact⟨h.a0,h.a1,h.b0,h.b1,h.b2⟩
 .exact h
def ni(h:SpB k B p):SpB k B (a9 p):=by
 unfold a9;split;.exact⟨h.a0,h.a1,h.b0,h.b1,h.b2⟩
 .exact h
end
section
open Go
structure CoC where
 kg:Nat
 kl:Nat
 tg:Int
 m:Int
 bud:Int
 node:Nat->Nat
 slot:Nat->Nat
 tl:Nat->Int
 cw:Nat->Int
structure Co where
 s:Ar
 G:List Sp
 L:List (List Sp)
 T:List Sp
def lsp(L:List (List Sp))(n i:Nat):Sp:=(L.getD n []).getD i Sp.zero
def jE(L:List (List Sp))(n i:Nat)(p:Sp):List (List Sp):=L.set n ((L.getD n []).set i p)
def mz(count bud:Int)(Xp:Bool):Bool:=decide (1<=count/\count<=bud)&&!Xp
def stL(c:CoC)(st:Co)(i:Nat):Ar×Sp:=bJ c.kl (c.tl (c.node i)) c.m st.s (c.slot i) (lsp st.L (c.node i) (c.slot i))
def stG(c:CoC)(st:Co)(i:Nat):Ar×Sp:=bJ c.kg c.tg c.m st.s (c.node i) (sv st.G (c.node i))
def lC(c:CoC)(st:Co)(i:Nat):Bool:=bo (lsp st.L (c.node i) (c.slot i)) (stL c st i).2
def nt(c:CoC)(st:Co)(i:Nat):Bool:=bo (sv st.G (c.node i)) (stG c st i).2
def setL(c:CoC)(st:Co)(i:Nat)(p:Sp):List (List Sp):=jE st.L (c.node i) (c.slot i) p
def xX(c:CoC)(st:Co)(i:Nat)(p:Sp):Ar×List Sp×List (List Sp)×Sp:=
 if p.pc=1 then((stL c st i).1,st.G,setL c st i (stL c st i).2,if lC c st i then {p with pc:=2} else p)
 else if p.pc=2 then
  if 0<ldW st.s.W (c.cw (c.node i))then(af st.s (c.cw (c.node i)),st.G,st.L,{p with a:=ldW st.s.W (c.cw (c.node i)),pc:=10})
  else(af st.s (c.cw (c.node i)),st.G.set (c.node i) (askK c.kg (sv st.G (c.node i))),st.L,{p with a:=ldW st.s.W (c.cw (c.node i)),pc:=3})
 else if p.pc=3 then((stG c st i).1,st.G.set (c.node i) (stG c st i).2,st.L,if nt c st i then {p with pc:=4} else p)
 else if p.pc=4 then(ae st.s (c.cw (c.node i)) 1,st.G,st.L,{p with a:=1,pc:=10})
 else(st.s,st.G,st.L,p)
def pP(c:CoC)(st:Co)(i:Nat)(p:Sp):Ar×List Sp×List (List Sp)×Sp:=
 if p.pc=11 then(af st.s (c.cw (c.node i)),st.G,st.L,{p with a:=ldW st.s.W (c.cw (c.node i)),pc:=if c.bud<ldW st.s.W (c.cw (c.node i))then 14 else 12})
 else if p.pc=12 then
  ((cB c.kl (c.tl (c.node i)) st.s (c.slot i) (lsp st.L (c.node i) (c.slot i))).1,st.G,st.L,
   {p with pc:=if mz p.a c.bud (cB c.kl (c.tl (c.node i)) st.s (c.slot i) (lsp st.L (c.node i) (c.slot i))).2 then 13 else 14})
 else if p.pc=13 then(ae st.s (c.cw (c.node i)) (p.a+1),st.G,setL c st i (a9 (lsp st.L (c.node i) (c.slot i))),{p with pc:=16})
 else if p.pc=14 then(ae st.s (c.cw (c.node i)) 0,st.G.set (c.node i) (a9 (sv st.G (c.node i))),st.L,{p with pc:=15})
 else if p.pc=15 then
  if nt c st i then((stG c st i).1,st.G.set (c.node i) (stG c st i).2,setL c st i (a9 (lsp st.L (c.node i) (c.slot i))),{p with pc:=16})
  else((stG c st i).1,st.G.set (c.node i) (stG c st i).2,st.L,p)
 else if p.pc=16 then((stL c st i).1,st.G,setL c st i (stL c st i).2,if lC c st i then {p with pc:=0} else p)
 else(st.s,st.G,st.L,p)
def cX(c:CoC)(st:Co)(i:Nat)(p:Sp):Ar×List Sp×List (List Sp)×Sp:=if p.pc<10 then xX c st i p else pP c st i p
def iF(st:Co)(i:Nat)(r:Ar×List Sp×List (List Sp)×Sp):Co:=⟨r.1,r.2.1,r.2.2.1,st.T.set i r.2.2.2⟩
def aj(c:CoC)(st:Co)(i:Nat):Co:=if (sv st.T i).pc=0\/(sv st.T i).pc=10 then st else iF st i (cX c st i (sv st.T i))
def bz(c:CoC)(st:Co)(i:Nat):Co:=
 if (sv st.T i).pc=0 then {st with L:=setL c st i (askK c.kl (lsp st.L (c.node i) (c.slot i))),T:=st.T.set i {(sv st.T i)with pc:=1}} else st
def az(st:Co)(i:Nat):Co:=if (sv st.T i).pc=10 then {st with T:=st.T.set i {(sv st.T i)with pc:=11}} else st
structure CoB(c:CoC)(B:Int)(st:Co):Prop where
 w:WdB B st.s
 g:∀p∈st.G,SpB c.kg B p
 l:∀x∈st.L,∀p∈x,SpB c.kl B p
 t:∀p∈st.T,0<=p.a/\p.a<=B
def spz(k:Nat)(h:0<=B):SpB k B Sp.zero:=⟨Int.le_refl _,h,by show -B<=0;omega,h,λ_=>Int.le_refl _⟩
def iL{S:List Sp}{P:Sp->Prop}(h:∀p∈S,P p)(H:P Sp.zero)(i:Nat):P (S.getD i Sp.zero):=by
 rw[List.getD_eq_getElem?_getD];by_cases hi:i<S.length;.rw[List.getElem?_eq_getElem hi];exact h _ (List.getElem_mem hi)
 .rw[List.getElem?_eq_none ahE];exact H
def ef{α:Type}{S:List α}{P:α->Prop}(h:∀p∈S,P p)(i:Nat){p:α}(H:P p):∀q∈S.set i p,P q:=by
 intro q I;rcases List.mem_or_eq_of_mem_set I with h1|h1
 .exact h q h1
 .rw[h1];exact H
section
variable{c:CoC}{st:Co}
def CoB.lall(h:CoB c B st)(n:Nat):∀p∈st.L.getD n [],SpB c.kl B p:=by
 rw[List.getD_eq_getElem?_getD];by_cases hi:n<st.L.length;.rw[List.getElem?_eq_getElem hi];exact h.l _ (List.getElem_mem hi)
 .rw[List.getElem?_eq_none ahE];intro p H;cases H
def CoB.lsp(h:CoB c B st)(H:0<=B)(n i:Nat):SpB c.kl B (lsp st.L n i):=iL (h.lall n) (spz _ H) i
def CoB.gsp(h:CoB c B st)(H:0<=B)(n:Nat):SpB c.kg B (sv st.G n):=iL h.g (spz _ H) n
def CoB.tsp(h:CoB c B st)(H:0<=B)(n:Nat):0<=(sv st.T n).a/\(sv st.T n).a<=B:=iL (P:=λp=>0<=p.a/\p.a<=B) h.t ⟨Int.le_refl _,H⟩ n
def CoB.mono(h:CoB c B st)(I:B<=C):CoB c C st:=
 ⟨h.w.mono I,λp H=>(h.g p H).mono I,λx O p H=>(h.l x O p H).mono I,λp H=>⟨(h.t p H).1,by have:=(h.t p H).2;omega⟩⟩
def CoB.setL(h:CoB c B st)(n i:Nat){p:Sp}(H:SpB c.kl B p):∀x∈jE st.L n i p,∀q∈x,SpB c.kl B q:=ef h.l n (ef (h.lall n) i H)
def CR(h:CoB c B st)(hB:1<=B)(Kc:B<=10000000000000)(i:Nat)(hs:(c.slot i:Int)+1<=B)(hn:(c.node i:Int)+1<=B)(hm:1<=c.m/\c.m<=B)(p:Sp)(hp:0<=p.a/\p.a<=B):CoB c (B+2) (iF st i (cX c st i p)):=by
  have H:=h.mono (C:=B+2) ahE;have JJ:(0:Int)<=B:=by omega
  have hL:=qu (t:=c.tl (c.node i)) (m:=c.m) (i:=(c.slot i:Int)) h.w (h.lsp JJ (c.node i) (c.slot i)) JJ Kc ⟨by omega,hs⟩ hm;have Y:=qu (t:=c.tg) (m:=c.m) (i:=(c.node i:Int)) h.w (h.gsp JJ (c.node i)) JJ Kc ⟨by omega,hn⟩ hm;have NY:=h.w.ld JJ (c.cw (c.node i));have V:0<=p.a/\p.a<=B+2:=⟨hp.1,by omega⟩;have I:∀q:Sp,(0<=q.a/\q.a<=B+2)->∀r∈st.T.set i q,0<=r.a/\r.a<=B+2:=λq hq=>ef H.t i hq;have O:0<=ldW st.s.W (c.cw (c.node i))/\ldW st.s.W (c.cw (c.node i))<=B+2:=⟨NY.1,by omega⟩;have UQ:SpB c.kl (B+2) (a9 (Go.Proofs.YtglokdbiggbkjaaGreat.lsp st.L (c.node i) (c.slot i))):=ni (H.lsp ahE _ _);have XP:SpB c.kg (B+2) (a9 (sv st.G (c.node i))):=ni (H.gsp ahE _);have XO:SpB c.kg (B+2) (askK c.kg (sv st.G (c.node i))):=ug (H.gsp ahE _) ahE;unfold cX;split
  . unfold xX;split;. exact⟨hL.1,H.g,H.setL _ _ hL.2,I _ (by split<;>exact V)⟩
    split
    . split;. exact⟨H.w.load _,H.g,H.l,I _ O⟩
      . exact⟨H.w.load _,ef H.g _ XO,H.l,I _ O⟩
    split;. exact⟨Y.1,ef H.g _ Y.2,H.l,I _ (by split<;>exact V)⟩
    split;. exact⟨H.w.store _ _ ahE,H.g,H.l,I _ ⟨by show(0:Int)<=1;omega,by show(1:Int)<=_;omega⟩⟩
    . exact⟨H.w,H.g,H.l,I _ V⟩
  . unfold pP;split;. exact⟨H.w.load _,H.g,H.l,I _ O⟩
    split
    . refine⟨?_,H.g,H.l,I _ V⟩;show WdB _ (cB _ _ _ _ _).1;unfold cB;split
      . split;. exact H.w
        split;. exact H.w.load _
        split<;>exact H.w.load _
      . exact H.w
    split;. exact⟨H.w.store _ _ ahE,H.g,H.setL _ _ UQ,I _ V⟩
    split;. exact⟨H.w.store _ _ ahE,ef H.g _ XP,H.l,I _ V⟩
    split
    . split;. exact⟨Y.1,ef H.g _ Y.2,H.setL _ _ UQ,I _ V⟩
      . exact⟨Y.1,ef H.g _ Y.2,H.l,I _ V⟩
    split;. exact⟨hL.1,H.g,H.setL _ _ hL.2,I _ (by split<;>exact V)⟩
    . exact⟨H.w,H.g,H.l,I _ V⟩
end
end
section
open Go.RowKit
def vI{v:Int}(h:v<0):upL P v=[]:=xm h
def IM(h:dZ P=true):∀(v:Nat),v<P.length->(upL P v).length=depL P v/\∀(i:Nat) (u:Int),(upL P v)[i]? =some u->0<=u/\u<P.length/\(upL P v).drop i=upL P u/\depL P u+i=depL P v:=by
 intro v;induction v using Nat.strongRecOn with
 |_ v ih=>
  intro O;obtain⟨p,I⟩:=ak O;have hl:=gD h I;rw[gq h I,iG h I];by_cases V:0<=p
  .obtain⟨n,rfl⟩:=Int.eq_ofNat_of_zero_le V;obtain⟨h1,h2⟩:=ih n ahE ahE;rw[if_pos V];refine⟨by rw[List.length_cons,h1],λi u H=>?_⟩;cases i with
   |zero=>simp at H;subst H;exact⟨by omega,by omega,by rw[List.drop_zero,gq h I],by rw[iG h I,if_pos V]⟩
   |succ i=>rw[List.getElem?_cons_succ]at H;obtain⟨a1,Y,a3,a4⟩:=h2 i u H;exact⟨a1,Y,by rw[List.drop_succ_cons];exact a3,by omega⟩
  .rw[if_neg V,vI ahE];refine⟨rfl,λi u H=>?_⟩;cases i with
   |zero=>simp at H;subst H;exact⟨by omega,by omega,by rw[List.drop_zero,gq h I,vI ahE],by rw[iG h I,if_neg V]⟩
   |succ i=>simp at H
def wy{v:Nat}(O:v<P.length):1<=depL P v:=Ah O
def po(h:dZ P=true)(H:0<=x)(I:x<P.length):(upL P x).length=depL P x/\∀(i:Nat) (u:Int),(upL P x)[i]? =some u->0<=u/\u<P.length/\(upL P x).drop i=upL P u/\depL P u+i=depL P x:=by obtain⟨n,rfl⟩:=Int.eq_ofNat_of_zero_le H;exact IM h n ahE
def p9(h:dZ P=true)(H:0<=x)(hl:x<P.length):1<=depL P x/\(upL P x)[depL P x-1]? =some 0:=by
 have hp:1<=depL P x:=by obtain⟨n,rfl⟩:=Int.eq_ofNat_of_zero_le H;exact wy ahE
 refine⟨hp,?_⟩;obtain⟨h1,h2⟩:=po h H hl;obtain⟨u,O⟩:=ak (show depL P x-1<(upL P x).length by omega);obtain⟨a1,a2,a3,a4⟩:=h2 _ u O;obtain⟨n,rfl⟩:=Int.eq_ofNat_of_zero_le a1;obtain⟨p,V⟩:=ak (show n<P.length by omega);have hd:=iG h V;have ht:=xj h V
 have Y:n=0:=by
  rcases Nat.eq_zero_or_pos n with e|e
  .exact e
  .have I:=ht.2 e;rw[if_pos I.1]at hd;obtain⟨m,rfl⟩:=Int.eq_ofNat_of_zero_le I.1;have:=wy (P:=P) (v:=m) ahE;omega
 subst Y;exact O
end
section
open Go Go.RowKit
def Awk(f:FuncId):Prop:=∀W,Calls prog f #[] W λe w'=>e= returned (bool true)/\Below W.heap.size W w'
end
end Go.Proofs.YtglokdbiggbkjaaGreat
