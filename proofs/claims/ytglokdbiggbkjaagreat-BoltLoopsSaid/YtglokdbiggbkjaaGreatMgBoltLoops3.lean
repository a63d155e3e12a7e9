/- Joined texts. -/
import Derived.Laws.OwnMore
import Derived.OwnWalk
import Derived.Laws.Externs
import Derived.Deep.QuietTactic
import Derived.BigQuiet
import Derived.Maps.AppendAt
import Derived.Deep.RegionHeld3
import Derived.Deep.DeepCutAuto
import Derived.Test.YtglokdbiggbkjaaGreatRows
import Derived.Tactics
import Derived.Tactics2
import Derived.Defers
import Derived.Laws.Pointers
import Derived.Laws.LoneSync
import Derived.RegionTactic
import Derived.RegionCalls
import Derived.ChangeAlike
import Derived.Test.YtglokdbiggbkjaaGreatMgBoltLoops0
import Derived.Test.YtglokdbiggbkjaaGreatMgBoltLoops2
set_option linter.unusedVariables false
set_option linter.unusedSimpArgs false
set_option linter.defProp false
set_option maxRecDepth 100000
set_option maxHeartbeats 16000000
open Go.Proofs.Tryz
namespace Go.Proofs.YtglokdbiggbkjaaGreat
open Go.IntKind(i64)
open Go.Value(int bool slice agg tuple pointer)
open Go.Ending(returned)
open Go.Obj(cells)
variable{n k a g base sz:Nat}{x v:Int}{w w':World}{e:TypeId}{xs:List Value}{l P T:List Int}
section
open Go.RowKit
def ku{f:Nat->Bool}(H:k<n)(h:f k=false):(List.range n).all f=false:=by rw[List.all_eq_false];exact⟨k,List.mem_range.2 H,by simp[h]⟩
def uO(w:World)(v:Value)(P:List Int)(h:RdL w v 1 encI P):E 82 #[v] w λe w'=>e= returned (bool (dW P))/\w=w':=by
  obtain⟨A,cap,rfl,l1,l2,I⟩:=h;have HR:=qh I;clear I;go_enter func82,ntmps82;go_wp2;go_loop [7] (λi=>∃k:Nat,i= J k/\k<=P.length/\(List.range k).all (okP P)=true) (λi=>P.length-(intOf i).toNat);case atStart=>exact⟨0,rfl,by omega,rfl⟩
  case round=>
    obtain⟨k,rfl,hk,ha⟩:=hrel;by_cases I':k<P.length
    . obtain⟨bl,off,rfl,KQ,hc⟩:=HR.o ahB;obtain⟨p,hp⟩:=ai I';have c0:=hc k p hp 0 _ rfl;simp only[Nat.add_zero,Nat.mul_one]at c0;have HP:=qh (And.intro (bm hp) ha);clear hc hp ha;by_cases H:(k=0->p= -1)/\(0<k->0<=p/\p<k)
      . have O:Kq ((List.range (k+1)).all (okP P)=true):=qh (by
          rw[jV,HP.o.2];simp only[Bool.true_and]
          exact decide_eq_true (by rw[HP.o.1];exact H))
        by_cases V:k=0
        . have e1:=H.1 V;subst V;subst e1;simp only[Nat.add_zero]at c0;go_wp2;go_round;case rel=>exact⟨1,by rfl,by omega,O.o⟩
          case measure=>simp[intOf];omega
        . obtain⟨e1,e2⟩:=H.2 ahB;have t0:((k:Int)==0)=false:=(by rw[beq_eq_false_iff_ne];omega);have t1:decide (0<k)=true:=decide_eq_true ahB;have t2:decide (p<0)=false:=decide_eq_false ahB;have Y:decide ((k:Int)<=p)=false:=decide_eq_false ahB;clear H V;go_wp2;go_round;case rel=>exact⟨k+1,by go_num,by omega,O.o⟩
          case measure=>simp[intOf];omega
      . have O:Kq (dW P=false):=qh (ku I' (decide_eq_false (by rw[HP.o.1];exact H)));by_cases V:k=0;. subst V;simp only[Nat.add_zero]at c0;have t1:(p != -1)=true:=(by rw[bne_iff_ne];intro h;exact H ⟨λ_=>h,by omega⟩);clear H;go_wp2;go_ret;exact⟨az O.o.symm,rfl⟩
        . have t0:((k:Int)==0)=false:=(by rw[beq_eq_false_iff_ne];omega);have t1:decide (0<k)=true:=decide_eq_true ahB;by_cases KF:p<0;. clear H V;go_wp2;go_ret;exact⟨az O.o.symm,rfl⟩
          . have Y:decide ((k:Int)<=p)=true:=decide_eq_true ahB;have t2:decide (p<0)=false:=decide_eq_false ahB;clear H V;go_wp2;go_ret;exact⟨az O.o.symm,rfl⟩
    . obtain rfl:k=P.length:=by omega
      have O:Kq (dW P=true):=qh ha;clear ha;go_wp2;go_ret;exact⟨az O.o.symm,rfl⟩
def sZ(b:Bool):List Value:=[.bool b]
def Br(b:Bool):(sZ b).length=1:=rfl
theorem Tryz.infoBool:(prog.info? 4).map (λi=>(i.zero,i.size,i.bytes))=some (some (bool false),1,1):=by kernel_rfl
theorem Tryz.infoIn:(prog.info? 3).map (λi=>(i.zero,i.size,i.bytes))=some (some (J 0),1,8):=by kernel_rfl
def kU(u:Value)(n:Nat):(madeCells #[u] n).toList=(List.range n).map λ_=>u:=by unfold madeCells;rw[Array.toList_map,Array.toList_range];refine List.map_congr_left λi _=>?_;simp[Nat.mod_one]
def tZ{α:Type}(enc:α->Value)(l:List α):l.map enc=l.flatMap (λx=>[enc x]):=by
 induction l with
 |nil=>rfl
 |cons a l h=>rw[List.map_cons,List.flatMap_cons,h];rfl
def gE(P:List Int)(k:Nat):List Bool:=(List.range P.length).map fun(u:Nat)=>decide ((u:Int)∈P.take k)
def mB(P:List Int)(k:Nat):(gE P k).flatMap sZ=(List.range P.length).map fun(u:Nat)=>Value.bool (decide ((u:Int)∈P.take k)):=by unfold gE;show List.flatMap (λx=>[Value.bool x]) _=_;rw[<-tZ Value.bool,List.map_map];rfl
def ky(P:List Int)(k:Nat):(gE P k).length=P.length:=by simp[gE]
def yU(w:World)(v:Value)(P:List Int)(h:RdL w v 1 encI P)(ht:dW P=true)(NL:P.length<=1000):E 117 #[v] w λe w'=>∃v',e= returned v'/\RdL w' v' 1 sZ (gE P P.length)/\Below w.heap.size w w':=by
  obtain⟨i0,hi,Kr,Ku,ab⟩:=info_parts Tryz.infoBool;obtain⟨A,cap,rfl,l1,l2,I⟩:=h;have HR:=qh I;have HT:=qh ht;clear I ht;go_enter func117,ntmps117;go_wp2_with (refine wpList_make_full _ rfl (.tmp 7) (.tmp 7) 220 rfl w.heap.size 4 i0 (bool false) 1 Tryz.underlying220 hi Kr Ku .i64 .i64 P.length P.length P.length rfl rfl rfl rfl ?b2 ?b3 (Nat.le_refl _) ?_);case b2=>rw[ab];omega
  case b3=>unfold maxLen;omega
  intro w1 H hg;have Pp:w1.ownsRow w.heap.size 4 1 (slice (some ⟨w.heap.size,0,none⟩) P.length P.length) P.length ((gE P 0).flatMap sZ):=by rw[mB];have e:(madeCells #[Value.bool false] P.length).toList=(List.range P.length).map fun(u:Nat)=>Value.bool (decide ((u:Int)∈P.take 0)):=(by rw[kU];refine List.map_congr_left λi _=>by simp);rw[e]at H;exact H
  have KP:Below w.heap.size w w1:=(Below.refl w.heap.size w).grown hg (Nat.le_refl _) (λj hj=>by cases hj);clear H hg;go_wp2;go_loopw [11] (λi wr=>∃k:Nat,i= J k/\k<=P.length/\wr.ownsRow w.heap.size 4 1 (slice (some ⟨w.heap.size,0,none⟩) P.length P.length) P.length ((gE P k).flatMap sZ)/\Below w.heap.size w wr) (λi _=>P.length-(intOf i).toNat);case atStart=>exact⟨0,rfl,by omega,Pp,KP⟩
  case round=>
    clear Pp KP;obtain⟨k,rfl,hk,H,V⟩:=hrel;by_cases I':k<P.length
    . obtain⟨bl,off,rfl,KQ,hc⟩:=HR.o ahB;obtain⟨p,hp⟩:=ai I';have c0:=(V.cell (p:=⟨bl,off+k*1+0,none⟩) KQ).trans (hc k p hp 0 _ rfl);simp only[Nat.add_zero,Nat.mul_one]at c0;have NU:=gL HT.o hp;have HP:=qh hp;clear hc hp;by_cases h0:0<=p
      . have f0:=H.frozenAt p.toNat;have g0:=H.cellAt p.toNat ahB;have ad:=(H.lt _ rfl).2;have Kh:=H.stored p.toNat (bool true)
        have Y:Kq (∀W:World,W.ownsRow w.heap.size 4 1 (slice (some ⟨w.heap.size,0,none⟩) P.length P.length) P.length (((gE P k).flatMap sZ).set p.toNat (bool true))->W.ownsRow w.heap.size 4 1 (slice (some ⟨w.heap.size,0,none⟩) P.length P.length) P.length ((gE P (k+1)).flatMap sZ)):=qh λW hW=>by
          rw[mB]at hW ⊢
          rw[qA P.length p.toNat _ (fun(u:Nat)=>Value.bool (decide ((u:Int)∈P.take (k+1)))) (bool true) (by
            show Value.bool (decide (((p.toNat:Nat):Int)∈P.take (k+1)))=_
            rw[decide_eq_true ((iZ HP.o _).2 (.inr ahB))]) (λj hj=>by
            show Value.bool (decide ((j:Int)∈P.take (k+1)))=Value.bool (decide ((j:Int)∈P.take k));congr 1;refine decide_eq_decide.2 ?_;rw[iZ HP.o]
            exact⟨λh=>h.elim id (λh=>by omega),.inl⟩)]at hW
          exact hW
        obtain⟨u,hu⟩:∃u,((gE P k).flatMap sZ)[p.toNat]? =some u:=by rw[mB,i9 _ _ _ ahB];exact⟨_,rfl⟩
        rw[hu]at g0;obtain⟨m,rfl⟩:=Int.eq_ofNat_of_zero_le h0;simp only[Int.toNat_natCast]at f0 g0 Kh Y;have O:=qh (And.intro Kh V);clear hu Kh V H;go_wp2;go_roundw;case rel=>exact⟨k+1,by go_num,by omega,Y.o _ O.o.1.1,O.o.2.setCell (Nat.le_refl _) _⟩
        case measure=>simp[intOf];omega
      . have Y:Kq (gE P (k+1)=gE P k):=qh (by
          unfold gE;refine List.map_congr_left λu _=>decide_eq_decide.2 ?_;rw[iZ HP.o]
          exact⟨λh=>h.elim id (λh=>by omega),.inl⟩)
        have O:=qh (And.intro H V);clear H V;go_wp2;go_roundw;case rel=>exact⟨k+1,by go_num,by omega,by rw[Y.o];exact O.o.1,O.o.2⟩
        case measure=>simp[intOf];omega
    . obtain rfl:k=P.length:=by omega
      have O:=qh (And.intro H V);clear H V;go_wp2;go_ret;exact⟨_,rfl,RdL.of_own Br (ky P _).symm (by rw[ky];omega) O.o.1,O.o.2⟩
end
section
open Go.RowKit
variable{s:Ar}
def p4{P:Program}{f:FuncId}{h:Func}(V:P.funcs[f]? =some h)(I:(h.name== "runtime.NumGoroutine")=false)(hb:h.body.isNone=true)(Y:Extern.findNext h=none)(k:IntKind)(O:Extern.find h=some (Extern.Atomic.swapT (.int k))){a:Addr}{y:Int}(hc:w.cell? a=some (.int k x))(hz:w.frozen? a=false):(callFunc f #[.pointer (some a),.int k y]).run P w= .ok (.value (.int k x)) (w.setCell a (.int k y)):=by
  rw[run_callFunc_extern V I hb Y O]
  change (Sem.run P (do
    let H <-asAddr (.pointer (some a))
    let old <-Extern.Atomic.read (.int k) H
    store H (.int k y) .atomic
    pure old) w).andThen _=_
  simp[Extern.Atomic.read,asAddr,hc,hz,run_store P w a (.int k y) .atomic rfl,Result.andThen]
def E6(w:World)(p:Addr)(x:Int)(hc:w.cell? p=some (J x))(h:p.spot=none):E 113 #[.pointer (some p)] w λe w'=>e= returned (J x)/\w=w':=by obtain⟨b,o,sp⟩:=p;obtain rfl:sp=none:=h;have H:=run_call_load (P:=prog) func157 ahE ahE ahE .i64 ahE hc;clear hc;go_enter func113,ntmps113;go_wp2;go_ret;exact⟨rfl,rfl⟩
def Hi(w:World)(b o:Nat)(x y:Int)(hc:Z w b o (J x))(h:w.frozen? ⟨b,o,none⟩=false):E 273 #[pointer (some ⟨b,o,none⟩),J y] w λe w'=>e= returned (J x)/\w'=w.setCell ⟨b,o,none⟩ (J y):=by have H:=p4 (P:=prog) func275 ahE ahE ahE .i64 ahE (y:=y) hc h;go_enter func273,ntmps273;go_wp2;go_ret;exact⟨rfl,rfl⟩
def aB.put(h:aB w a g s)(H:inR s.W x=true)(v:Int):aB (w.setCell ⟨g,x.toNat-1,none⟩ (J v)) a g (wrA s x v)/\aa [a,g] w (w.setCell ⟨g,x.toNat-1,none⟩ (J v)):=by
  have I:=aT.1 H;refine⟨⟨?_,?_,h.ne,?_,h.room,h.ops⟩,(aa.refl _ _).setCell (.inl ahC) _⟩;. have:=h.blk.far (p:=⟨g,x.toNat-1,none⟩) h.ne (J v);have e:gH g (wrA s x v)=gH g s:=(by unfold gH wrA;rw[bM]);rw[e];exact this
  . have:=h.wds.set_ (x.toNat-1) (J v);rw[E1 s ahB]at this;have e:wrA s x v={s with W:=s.W.set (x.toNat-1) v}:=(by unfold wrA stW;rw[if_pos H]);rw[e];exact this
  . show(stW s.W x v).length<=_;rw[bM];exact h.le
def ji(h:aa [a] w w'):aa [a,g] w w':=h.mono ahC
def fk(w:World)(a g:Nat)(s':Ar)(r:Value)(e:Ending)(w':World):Prop:=e= returned r/\aB w' a g s'/\aa [a,g] w w'
def aD(h:aB w a g s)(x:Int)(V:s.ops+1<=1000000000000):E 173 #[↑a,J x] w (fk w a g (af s x) (J (ldW s.W x))):=by
  have H:=qh h;cases O:inR s.W x;. have e:fk w a g (af s x) (J (ldW s.W x)) (returned (J 0)) w:=⟨by rw[lw O],by unfold af;rw[i5 s _ _ _ O];exact h,aa.refl _ _⟩;have HX:=qh O;clear h O;go_enter func173,ntmps173;go_wp2_with fail;refine LT (ks H.o x HX.o) ?_;go_wp2;go_ret;exact e
  . have HX:=qh O;have Y:=qh (js O);have Og:=aT.1 O;have MV:x.toNat-1<s.W.length:=(by omega);clear h O;go_enter func173,ntmps173;go_wp2_with fail;refine LT (kG H.o x HX.o) ?_;go_wp2_with fail;refine Op (i6 H.o 1 x false HX.o V) λw1 h1=>?_;have hc:=(h1.o.1.word (i:=x.toNat-1) (by rw[dN];exact MV)).1;rw[dN]at hc;have H1:=qh (And.intro h1.o.1 h1.o.2);go_wp2_with fail;refine LT (E6 _ _ _ hc rfl) ?_;clear hc;rw[<-Y.o];obtain⟨r,I⟩:=LE (ldW s.W x);rw[<-I];have HR:=qh I;clear I;go_wp2;go_ret;exact⟨by rw[HR.o];rfl,H1.o.1,ji H1.o.2⟩
def fD(h:aB w a g s)(x v:Int)(V:s.ops+1<=1000000000000):E 271 #[↑a,J x,J v] w (fk w a g (cr s x v) (J (ldW s.W x))):=by
  have H:=qh h;cases O:inR s.W x;. have e:fk w a g (cr s x v) (J (ldW s.W x)) (returned (J 0)) w:=⟨by rw[lw O],by unfold cr;rw[i5 s _ _ _ O,sh s _ _ O];exact h,aa.refl _ _⟩;have HX:=qh O;clear h O;go_enter func271,ntmps271;go_wp2_with fail;refine LT (ks H.o x HX.o) ?_;go_wp2;go_ret;exact e
  . have HX:=qh O;have HE:=qh (js O);have Og:=aT.1 O;have MV:x.toNat-1<s.W.length:=(by omega);clear h O;go_enter func271,ntmps271;go_wp2_with fail;refine LT (kG H.o x HX.o) ?_;go_wp2_with fail;refine Op (i6 H.o 3 x true HX.o V) λw1 h1=>?_;have hc:=h1.o.1.word (i:=x.toNat-1) (by rw[dN];exact MV);rw[dN]at hc;have hp:=h1.o.1.put (x:=x) (by rw[dN];exact HX.o) v;have H1:=qh (And.intro hp h1.o.2);have Y:=qh hc;clear hp hc;go_wp2_with fail;refine LT (Hi _ _ _ _ _ Y.o.1 Y.o.2) ?_;rw[<-HE.o];obtain⟨r,I⟩:=LE (ldW s.W x);rw[<-I];have HR:=qh I;clear I;go_wp2;go_ret;exact⟨by rw[HR.o];rfl,H1.o.1.1,(ji H1.o.2).trans H1.o.1.2⟩
end
section
open Go.RowKit
theorem Tryz.infoAt:(prog.info? 216).map (λi=>(i.zero,i.size,i.bytes))=some (some (agg #[J 0]),1,8):=by kernel_rfl
def mR(u:Value)(n:Nat):(madeCells #[u] n).toList=List.replicate n u:=by
 unfold madeCells;rw[Array.toList_map,Array.toList_range];refine List.ext_getElem? λi=>?_;rw[List.getElem?_map,List.getElem?_replicate];by_cases h:i<n;.rw[List.getElem?_range h,if_pos h];simp[Nat.mod_one]
 .rw[if_neg h];simp;omega
def gc(h:w.ownsRow base e sz (slice (some ⟨g,0,none⟩) n n) n xs):Blk w g e xs.toArray:=by
 rcases h.2 with⟨H,_⟩|⟨g',I,V,H,hb,hg,Su,Q8,O,ht⟩
 .simp at H
 .simp only[Value.slice.injEq,Option.some.injEq,Addr.mk.injEq,and_true,true_and]at H;obtain⟨rfl,rfl⟩:=H;have Y:V=xs.toArray:=by rw[<-ht];apply Array.ext';rw[List.take_of_length_le (by rw[Array.length_toList,O];exact Nat.le_refl _)]
  unfold Blk;rw[hg,Y]
def mo(room:Int):Nat:=if room<0 then 0 else if 4096<room then 4096 else room.toNat
def dI(room:Int):Ar:=⟨[],mo room,0,0,0,false⟩
def JH(w:World)(room:Int)(e:Ending)(w':World):Prop:=∃a g,e= returned (pointer (some ⟨a,0,none⟩))/\aB w' a g (dI room)/\w.heap.size<=a/\w.heap.size<=g/\Below w.heap.size w w'
def uf(w:World)(room:Int):E 12 #[J room] w (JH w room):=by
  obtain⟨i0,hi,Kr,Ku,O⟩:=info_parts Tryz.infoAt;obtain⟨n,I⟩:=LE (mo room);have hc:n<=4096:=by rw[I];unfold mo;split<;>(try split)<;>omega
  have HN:=qh I
  have KO:∀(w1:World),w1.ownsRow w.heap.size 216 1 (slice (some ⟨w.heap.size,0,none⟩) n n) n (madeCells #[J 0] n).toList->w.grownBy w1 none->
      aB (w1.alloc (cells #[slice (some ⟨w.heap.size,0,none⟩) n n,J 0,J 0,J 0,J 0,bool false] 106)) w1.heap.size w.heap.size (dI room)/\w.heap.size<=w1.heap.size/\Below w.heap.size w (w1.alloc (cells #[slice (some ⟨w.heap.size,0,none⟩) n n,J 0,J 0,J 0,J 0,bool false] 106)):=by
    intro w1 H hg
    rw[mR]at H
    have hb:=gc H
    have I':=hb.lt
    refine⟨⟨?_,?_,by omega,by simp[dI],by simp[dI];omega,by simp[dI]⟩,by omega,((Below.refl w.heap.size w).grown hg (Nat.le_refl _) (λj hj=>by cases hj)).alloc ahB _⟩
    . have:=Blk.new w1 106 (gH w.heap.size (dI room))
      unfold gH dI at this ⊢
      rw[<-HN.o]at this ⊢
      simpa using this
    . have e:(wdL (dI room)).toArray=(List.replicate n (Value.int .i64 0)).toArray:=by unfold wdL dI;simp[<-HN.o]
      rw[e]
      exact hb.alloc _
  have TD:=qh KO;clear KO;rcases(show 4096<room\/(room<=4096/\0<room)\/room<=0 by omega)with h|⟨h,h'⟩|h
  . have Ze:Kq ((4096:Int)=(n:Int)):=qh (by rw[I];unfold mo;rw[if_neg ahB,if_pos h];rfl);clear I;go_enter func12,ntmps12;go_wp2_with (refine wpList_make_full _ rfl (.tmp 5) (.tmp 5) 102 rfl w.heap.size 216 i0 (agg #[J 0]) 1 Tryz.underlying102 hi Kr Ku .i64 .i64 4096 4096 n rfl rfl Ze.o Ze.o ?b2 ?b3 (Nat.le_refl _) ?_);case b2=>rw[O];omega
    case b3=>unfold maxLen;omega
    intro w1 H hg;obtain⟨V,Y,k3⟩:=TD.o w1 H hg;clear H hg;go_wp2;go_ret;exact⟨_,_,rfl,V,Y,Nat.le_refl _,k3⟩
  . have Ze:Kq (room=(n:Int)):=qh (by rw[I];unfold mo;rw[if_neg ahB,if_neg ahB];omega);clear I;go_enter func12,ntmps12;go_wp2_with (refine wpList_make_full _ rfl (.tmp 5) (.tmp 5) 102 rfl w.heap.size 216 i0 (agg #[J 0]) 1 Tryz.underlying102 hi Kr Ku .i64 .i64 room room n rfl rfl Ze.o Ze.o ?b2 ?b3 (Nat.le_refl _) ?_);case b2=>rw[O];omega
    case b3=>unfold maxLen;omega
    intro w1 H hg;obtain⟨V,Y,k3⟩:=TD.o w1 H hg;clear H hg;go_wp2;go_ret;exact⟨_,_,rfl,V,Y,Nat.le_refl _,k3⟩
  . have Ze:Kq ((0:Int)=(n:Int)):=qh (by rw[I];unfold mo;split<;>(try split)<;>omega);have h4:room<=4096:=(by omega);clear I;go_enter func12,ntmps12;go_wp2_with (refine wpList_make_full _ rfl (.tmp 5) (.tmp 5) 102 rfl w.heap.size 216 i0 (agg #[J 0]) 1 Tryz.underlying102 hi Kr Ku .i64 .i64 0 0 n rfl rfl Ze.o Ze.o ?b2 ?b3 (Nat.le_refl _) ?_);case b2=>rw[O];omega
    case b3=>unfold maxLen;omega
    intro w1 H hg;obtain⟨V,Y,k3⟩:=TD.o w1 H hg;clear H hg;go_wp2;go_ret;exact⟨_,_,rfl,V,Y,Nat.le_refl _,k3⟩
def eh(s:Ar)(n:Int):Ar×Int×Int:=
 if n<0 then(s,(0:Int),(1:Int))else if (s.room:Int)-s.W.length<n then(s,(0:Int),(3:Int))else({s with W:=s.W++List.replicate n.toNat 0},(s.W.length:Int)+1,(0:Int))
def FB(w:World)(a g:Nat)(x:Ar×Int×Int)(e:Ending)(w':World):Prop:=e= returned (tuple #[J x.2.1,J x.2.2])/\aB w' a g x.1/\aa [a] w w'
def gz{s:Ar}(h:aB w a g s)(n:Int):E 139 #[↑a,J n] w (FB w a g (eh s n)):=by
  have H:=qh h;have c0:=h.c0;have c1:=h.c1;have f1:=h.blk.free 1;have OO:=h.le;have Y:=h.room;have I':=h.blk.lt;clear h;by_cases O:n<0;. have e:eh s n=(s,(0:Int),(1:Int)):=(by unfold eh;rw[if_pos O]);have I:=qh e;clear e;go_enter func139,ntmps139;go_wp2;go_ret2;rw[I.o];exact⟨rfl,H.o,aa.refl _ _⟩
  . by_cases h1:(s.room:Int)-s.W.length<n;. have e:eh s n=(s,(0:Int),(3:Int)):=(by unfold eh;rw[if_neg O,if_pos h1]);have I:=qh e;have V:IntKind.i64.wrap ((s.room:Int)-s.W.length)=(s.room:Int)-s.W.length:=IntWalk.i64_in _ ahB;clear e;go_enter func139,ntmps139;go_wp2;go_quiet (fail);go_wp2;go_ret2;rw[I.o];exact⟨rfl,H.o.turns (S:=[]) ((aa.refl _ _).drewN _) ahC ahC,(aa.refl _ _).drewN _⟩
    . have e:eh s n=({s with W:=s.W++List.replicate n.toNat 0},(s.W.length:Int)+1,(0:Int)):=(by unfold eh;rw[if_neg O,if_neg h1]);have I:=qh e;have V:IntKind.i64.wrap ((s.room:Int)-s.W.length)=(s.room:Int)-s.W.length:=IntWalk.i64_in _ ahB;have h2:n<=4096:=(by omega);clear e;go_enter func139,ntmps139;go_wp2;go_quiet (fail);clear V;go_wp2;go_ret2;rw[I.o];obtain⟨m,rfl⟩:=Int.eq_ofNat_of_zero_le (show 0<=n by omega);have hb:=(H.o.blk.drewN nq).set_ 1 (J (s.W.length+m));have hw:=(H.o.wds.drewN nq).far (p:=⟨a,1,none⟩) H.o.ne.symm (J (s.W.length+m));refine⟨rfl,⟨?_,?_,H.o.ne,by simp;omega,Y,H.o.ops⟩,((aa.refl _ _).drewN _).setCell (.inl ahC) _⟩;. have e:gH g ({s with W:=s.W++List.replicate ((m:Int).toNat) 0})=(gH g s).setIfInBounds 1 (J (s.W.length+m)):=(by unfold gH;simp);rw[e];exact hb
      . have e:wdL {s with W:=s.W++List.replicate ((m:Int).toNat) 0}=wdL s:=(by unfold wdL;congr 1;rw[List.append_assoc,List.append_cancel_left_eq,List.replicate_append_replicate];congr 1;simp;omega);rw[e];exact hw
end
section
open Go Go.RowKit Go.Maps
def AO(w:World)(t:TypeId)(u:Value)(hg:g=w.heap.size):∀j x,[u][j]? =some x->(w.alloc (cells #[u] t)).cell? ((⟨g,0,none⟩:Addr).add j)=some x:=by intro j x h;subst hg;refine aj7 ?_;intro LZ;simpa using h
def G3{s:Ar}(h:aB w a g s):E 64 #[↑a] w λe w'=>∃v,e= returned v/\RdL w' v 1 encI s.W/\(∀q,v.ownBlock=some q->w.heap.size<=q)/\Below w.heap.size w w':=by
  obtain⟨i0,hi,Kr,Ku,ab⟩:=info_parts Tryz.infoIn;have OO:=h.le;have OU:=h.room;have H:=qh h;have c0:=h.c0;have Oi:=h.blk.lt;clear h;go_enter func64,ntmps64;go_wp2_with fail;refine LT (nC H.o) ?_;go_wp2;go_loopw [3,7] (λv i wr=>∃(k:Nat),i= J k/\k<=s.W.length/\wr.ownsRow w.heap.size 3 1 v k ((s.W.take k).flatMap encI)/\Below w.heap.size w wr) (λ_ i _=>s.W.length-(intOf i).toNat);case atStart=>exact⟨0,rfl,by omega,World.ownsRow_nil _ _ _ _,Below.refl _ _⟩
  case round=>
    obtain⟨k,rfl,hk,I,hb⟩:=hrel;have V:=H.o.turns (S:=[]) (aa.of_below hb) ahC ahC;by_cases I':k<s.W.length
    . obtain⟨A',cp,rfl⟩:=bE I;have c1:=V.c0;have UP:=(V.word (i:=k) I').1;have KR:=hb.size;have ad:(k:Int)<s.room:=(by omega);have O:=qh (And.intro hb V);obtain⟨z,hz⟩:=LE (s.W.getD k 0);rw[<-hz]at UP;have KV:s.W[k]? =some z:=(by rw[hz,List.getD_eq_getElem?_getD,List.getElem?_eq_getElem I'];rfl);have HZ:=qh KV;have YF:=qh UP;clear hb V hz KV UP c0;go_wp2_with fail;refine LT (E6 _ _ z YF.o rfl) ?_;go_wp2_with (at_builtin;refine wpList_append_own _ rfl _ _ 22 rfl w.heap.size 3 i0 (J 0) 1 8 Tryz.underlying22 hi Kr Ku ab rfl ahD _ _ _ rfl (I.alloc _) ⟨wr.heap.size,0,none⟩ 1 1 (encI z) rfl rfl (AO wr 3 (J z) rfl) (by intro u hu;simp[encI]at hu;subst hu;rfl) ?c3 ?c4 ?c5 ?_);case c3=>unfold maxLen;omega
      case c4=>omega
      case c5=>simp;omega
      intro v' w2 h2 LQ _;have h3:w2.ownsRow w.heap.size 3 1 v' (k+1) ((s.W.take (k+1)).flatMap encI):=(by rw[bJ HZ.o,List.flatMap_append];simpa using h2);have Y:=qh (And.intro h3 ((O.o.1.alloc KR (cells #[J z] 3)).grown LQ ahG (λj hj=>(I.lt j hj).1)));clear h2 LQ h3 I;go_wp2;go_roundw;case rel=>first|exact⟨k+1,by go_num,by omega,Y.o.1,Y.o.2⟩|((repeat apply Exists.intro);exact⟨⟨k+1,by go_num,by omega,Y.o.1,Y.o.2⟩,rfl⟩)
      case measure=>simp[intOf];omega
    . obtain rfl:k=s.W.length:=by omega
      rw[List.take_length]at I;have O:=qh (And.intro I hb);clear I hb V;go_wp2;go_ret;exact⟨_,rfl,RdL.of_own ta rfl ahB O.o.1,λq hq=>(O.o.1.lt q hq).1,O.o.2⟩
section
variable{M:LkM n}{X:WoB M}{st st':M.σ}
theorem Dg(G:M.Good)(h:cQ X w st):E 24 #[lkP X.wb] w λe w'=>∃v,e= returned v/\RdL w' v 1 encI (M.ar st).W/\(∀q,v.ownBlock=some q->w.heap.size<=q)/\Below w.heap.size w w':=by have c2:=h.wd.cell 0;have H:=qh (G3 (G.ais _ _ _ _ _ _ h.is));unfold lkP at *;clear h;go_enter func24,ntmps24;go_wp2_with fail;refine H.o.mono ?_;rintro en w' ⟨v,rfl,O⟩;have I:=qh O;clear O;go_wp2;go_ret;exact⟨v,rfl,I.o⟩
end
end
section
open Go Go.RowKit Go.Maps
theorem Tryz.infoEvt:(prog.info? 55).map (λi=>(i.zero,i.size,i.bytes))=some (some (agg #[J 0,J 0,bool false,J 0]),4,32):=by kernel_rfl
def ql(w:World)(e:Ev)(hg:g=w.heap.size):∀j u,(encE e)[j]? =some u->(w.alloc (cells #[J e.kind,J e.thread,.bool e.read,J e.count] 55)).cell? ((⟨g,0,none⟩:Addr).add j)=some u:=by intro j u h;subst hg;refine aj7 ?_;intro LZ;simpa[encE]using h
section
variable{M:LkM n}{X:WoB M}{st st':M.σ}{S:List Nat}{row:Option Nat}{N:Nat}
def aa.grownRow{w0:World}(h:aa S w0 w)(hg:w.grownBy w' row)(I:∀j,row=some j->w0.heap.size<=j):aa S w0 w':=
 ⟨hg.os.trans h.os,hg.tape.trans h.tape,hg.output.trans h.output,Nat.le_trans h.size hg.size,λi hi H=>(hg.block i (Nat.lt_of_lt_of_le hi h.size) (by intro e;have:=I i e.symm;omega)).trans (h.block i hi H)⟩
def cQ.grown(G:M.Good)(h:cQ X w st)(hg:w.grownBy w' row)(I:∀j,row=some j->X.hi<=j):cQ X w' st:=by
 cases row with
 |none=>exact h.far G (S:=[]) ⟨hg.os,hg.tape,hg.output,hg.size,λi hi _=>hg.block i hi ahC⟩ ahC
 |some r=>exact h.far G (S:=[r]) (aa.grown hg) (λi hi=>by simp at hi;subst hi;exact I _ rfl)
def LkM.runA(M:LkM n)(st:M.σ)(l:List (Int×Int))(k:Nat):M.σ:=(l.take k).foldl (λs p=>(M.pick s p).2) st
def LkM.evs(M:LkM n)(st:M.σ):List (Int×Int)->List Ev
 |[]=>[]
 |p :: l=>(M.pick st p).1 :: M.evs (M.pick st p).2 l
def mH{l:List (Int×Int)}{p:Int×Int}(h:l[k]? =some p):M.runA st l (k+1)=(M.pick (M.runA st l k) p).2:=by unfold LkM.runA;rw[bJ h,List.foldl_append];rfl
def dC(l:List (Int×Int)):∀st:M.σ,(M.evs st l).length=l.length:=by
 induction l with
 |nil=>intro _;rfl
 |cons p l h=>intro st;simp[LkM.evs,h]
def xB{l:List (Int×Int)}:∀{st:M.σ} {k:Nat} {p:Int×Int},l[k]? =some p->(M.evs st l)[k]? =some (M.pick (M.runA st l k) p).1:=by
 induction l with
 |nil=>intro st k p h;simp at h
 |cons q l H=>
  intro st k p h;cases k with
  |zero=>simp at h;subst h;rfl
  |succ k=>exact H (st:=(M.pick st q).2) h
def LkM.Good.runA(G:M.Good)(h:M.ok st N)(l:List (Int×Int)):∀k,N+k<=lkB->M.ok (M.runA st l k) (N+k):=by
 intro k;induction k with
 |zero=>intro _;exact h
 |succ k I=>
  intro O;have h1:=I ahB;cases H:l[k]? with
  |none=>have e:M.runA st l (k+1)=M.runA st l k:=(by unfold LkM.runA;rw[List.take_add_one,H];simp);rw[e];exact G.okm _ _ h1
  |some p=>rw[mH H];exact(G.pick h1 ahB p).1
end
end
section
open Go.RowKit
variable{b:Nat}{v:Value}
def df{b':Nat}(h:w.ownsRow b e sz v n xs)(hb:b'<=b):w.ownsRow b' e sz v n xs:=by
 rcases h.2 with I|⟨g,cap,H,O,V,q⟩
 .exact⟨h.1,.inl I⟩
 .exact⟨h.1,.inr ⟨g,cap,H,O,Nat.le_trans hb V,q⟩⟩
def dO(h:w.ownsRow b 3 1 v l.length (l.flatMap encI))(H:l.length<=140737488355328):RdL w v 1 encI l:=RdL.of_own ta rfl H h
def kD(x:Int):∀u∈encI x,u.oneCell'=true:=by simp[encI,Value.oneCell']
def Gc(h:k<P.length):(gE P P.length)[k]? =some (decide ((k:Int)∈P)):=by unfold gE;rw[i9 _ _ _ h,List.take_length]
def Cb(H:k<P.length):dm P k=!decide ((k:Int)∈P):=by
 unfold dm;by_cases h:(k:Int)∈P;.simp[h]
 .simp[h,H]
def iR(l:List Int)(x:Int):(l++[x]).flatMap encI=l.flatMap encI++encI x:=by simp
def oV(w:World)(v:Value)(P:List Int)(h:RdL w v 1 encI P)(ht:dW P=true)(NL:P.length<=1000):E 83 #[v] w λe w'=>∃v',e= returned v'/\w'.ownsRow w.heap.size 3 1 v' (ac P).length ((ac P).flatMap encI)/\Below w.heap.size w w':=by
  obtain⟨i0,hi,Kr,Ku,hz2⟩:=info_parts Tryz.infoIn;refine ajB ?_;intro HI;have HC:=qh (yU w v P h ht NL);clear hi Kr Ku hz2 h ht;go_enter func83,ntmps83;go_wp2_with fail;refine HC.o.mono ?_;rintro en w1 ⟨v',rfl,hR,hb⟩;have HB:=qh hb;have Kl:=hb.size;clear hb;obtain⟨A,cap,rfl,l1,l2,I⟩:=hR;have HR:=qh I;clear I;have WE:(gE P P.length).length=P.length:=ky _ _;rw[WE]at *;clear WE;go_wp2;go_loopw [3,9] (λo i wr=>∃k:Nat,i= J k/\k<=P.length/\wr.ownsRow w1.heap.size 3 1 o (am P k).length ((am P k).flatMap encI)/\Below w1.heap.size w1 wr) (λ_ i _=>P.length-(intOf i).toNat);case atStart=>exact⟨0,rfl,by omega,World.ownsRow_nil _ _ _ _,Below.refl _ _⟩
  case round=>
    obtain⟨k,rfl,hk,O,V⟩:=hrel;by_cases I':k<P.length
    . obtain⟨bl,off,rfl,KQ,hc⟩:=HR.o (by rw[ky];omega);have c0:=(V.cell (p:=⟨bl,off+k*1+0,none⟩) KQ).trans (hc k _ (Gc I') 0 _ rfl);simp only[Nat.add_zero,Nat.mul_one]at c0;have Lz:=a8 P k;have KR:=V.size;have HS:=qh (cI P k);have HL:=qh (Cb I');have H:=qh (And.intro O V);obtain⟨A9,c9,rfl⟩:=bE O;clear hc V;cases hm:decide ((k:Int)∈P)
      . rw[hm]at c0;have Y:=qh hm;clear hm;go_wp2_with (at_builtin;refine wpList_append_own _ rfl _ _ 22 rfl w1.heap.size 3 i0 (J 0) 1 8 Tryz.underlying22 HI.o.1 HI.o.2.1 HI.o.2.2.1 HI.o.2.2.2 rfl ahD _ _ _ rfl (O.alloc _) ⟨wr.heap.size,0,none⟩ 1 1 (encI k) rfl rfl (cell_one_new _ _ _) (kD _) ?c3 ?c4 ?c5 ?_);case c3=>unfold maxLen;omega
        case c4=>omega
        case c5=>simp;omega
        intro v' w' MO MJ OR;have HN:=qh (And.intro MO MJ);clear MO MJ OR O;go_wp2;go_roundw;case rel=>exact⟨k+1,by go_num,by omega,by rw[HS.o,HL.o,Y.o];simp only[Bool.not_false,if_true];rw[iR,List.length_append];exact HN.o.1,(H.o.2.alloc KR _).grown HN.o.2 ahG (λj hj=>(H.o.1.lt j hj).1)⟩
        case measure=>simp[intOf];omega
      . rw[hm]at c0;have Y:=qh hm;clear hm O;go_wp2;go_roundw;case rel=>exact⟨k+1,by go_num,by omega,by rw[HS.o,HL.o,Y.o];exact H.o.1,H.o.2⟩
        case measure=>simp[intOf];omega
    . obtain rfl:k=P.length:=by omega
      have Lz:=a8 P P.length;have H:=qh (And.intro O V);clear O V;go_wp2;go_ret;exact⟨_,rfl,df H.o.1 Kl,HB.o.trans (H.o.2.mono Kl)⟩
def g8(P:List Int)(k:Nat):List Int:=(List.range P.length).map fun(u:Nat)=>if u<k then((depL P u:Nat):Int)else 0
def pZ(P:List Int):List Int:=(List.range P.length).map fun(u:Nat)=>((depL P u:Nat):Int)
def y7(P:List Int)(k:Nat):(g8 P k).length=P.length:=by simp[g8]
def yY(P:List Int):g8 P P.length=pZ P:=by unfold g8 pZ;exact List.map_congr_left λu h=>if_pos (List.mem_range.1 h)
def iQ(l:List Int):l.flatMap encI=l.map (Value.int .i64):=(tZ _ _).symm
def qr(P:List Int)(k:Nat)(x:Int)(H:x=((depL P k:Nat):Int)):((g8 P k).flatMap encI).set k (J x)=(g8 P (k+1)).flatMap encI:=by
 rw[iQ,iQ];unfold g8;rw[List.map_map,List.map_map];refine qA P.length k _ _ _ ?_ λj I=>?_;.show Value.int .i64 (if k<k+1 then _ else _)=_;rw[if_pos ahB,H]
 .show Value.int .i64 (if j<k+1 then _ else _)=Value.int .i64 (if j<k then _ else _);by_cases h:j<k;.rw[if_pos h,if_pos ahB]
  .rw[if_neg h,if_neg ahB]
def yZ(P:List Int)(k m:Nat)(hm:m<k)(h:k<=P.length):((g8 P k).flatMap encI)[m]? =some (J ((depL P m:Nat):Int)):=by rw[iQ];unfold g8;rw[List.map_map,i9 _ _ _ ahB];show some (Value.int .i64 (if m<k then _ else _))=_;rw[if_pos hm]
def vK(w:World)(v:Value)(P:List Int)(h:RdL w v 1 encI P)(ht:dW P=true)(NL:P.length<=1000):E 84 #[v] w λe w'=>∃v',e= returned v'/\w'.ownsRow w.heap.size 3 1 v' (pZ P).length ((pZ P).flatMap encI)/\Below w.heap.size w w':=by
  obtain⟨i0,hi,Kr,Ku,ab⟩:=info_parts Tryz.infoIn;obtain⟨A,cap,rfl,l1,l2,I⟩:=h;have HR:=qh I;have HT:=qh ht;clear I ht;go_enter func84,ntmps84;go_wp2_with (refine wpList_make_full _ rfl (.tmp 7) (.tmp 7) 22 rfl w.heap.size 3 i0 (J 0) 1 Tryz.underlying22 hi Kr Ku .i64 .i64 P.length P.length P.length rfl rfl rfl rfl ?b2 ?b3 (Nat.le_refl _) ?_);case b2=>rw[ab];omega
  case b3=>unfold maxLen;omega
  intro w1 H hg;have Pp:w1.ownsRow w.heap.size 3 1 (slice (some ⟨w.heap.size,0,none⟩) P.length P.length) P.length ((g8 P 0).flatMap encI):=by have e:(madeCells #[Value.int .i64 0] P.length).toList=(g8 P 0).flatMap encI:=(by rw[kU,iQ];unfold g8;rw[List.map_map];exact List.map_congr_left λi _=>rfl);rw[e]at H;exact H
  have KP:Below w.heap.size w w1:=(Below.refl w.heap.size w).grown hg (Nat.le_refl _) (λj hj=>by cases hj);clear H hg hi Kr Ku ab;go_wp2;go_loopw [11] (λi wr=>∃k:Nat,i= J k/\k<=P.length/\wr.ownsRow w.heap.size 3 1 (slice (some ⟨w.heap.size,0,none⟩) P.length P.length) P.length ((g8 P k).flatMap encI)/\Below w.heap.size w wr) (λi _=>P.length-(intOf i).toNat);case atStart=>exact⟨0,rfl,by omega,Pp,KP⟩
  case round=>
    clear Pp KP;obtain⟨k,rfl,hk,H,V⟩:=hrel;by_cases I':k<P.length
    . obtain⟨bl,off,rfl,KQ,hc⟩:=HR.o ahB;obtain⟨p,hp⟩:=ai I';have c0:=(V.cell (p:=⟨bl,off+k*1+0,none⟩) KQ).trans (hc k p hp 0 _ rfl);simp only[Nat.add_zero,Nat.mul_one]at c0;have NU:=gL HT.o hp;have Y:=iN HT.o hp;have ad:=DL P p;have HP:=qh hp;clear hc hp;have f0:=H.frozenAt k;have g0:=H.cellAt k ahB;have al:=(H.lt _ rfl).2;obtain⟨u,hu⟩:∃u,((g8 P k).flatMap encI)[k]? =some u:=by rw[iQ];unfold g8;rw[List.map_map,i9 _ _ _ ahB];exact⟨_,rfl⟩
      rw[hu]at g0;clear hu;have ax:bl≠w.heap.size:=(by omega);by_cases h0:0<=p
      . rw[if_pos h0]at Y;obtain⟨m,rfl⟩:=Int.eq_ofNat_of_zero_le h0;have g1:=H.cellAt m ahB;rw[yZ P k m ahB hk]at g1;have Kh:=(H.stored k (J 1)).1.stored k (J (((depL P m:Nat):Int)+1));have HN:=qh (qr P k (((depL P m:Nat):Int)+1) (by rw[Y];omega));have O:=qh (And.intro Kh V);clear Kh V H Y;go_wp2;go_roundw;case rel=>exact⟨k+1,by go_num,by omega,by have:=O.o.1.1;rw[List.set_set,HN.o]at this;exact this,(O.o.2.setCell (Nat.le_refl _) _).setCell (Nat.le_refl _) _⟩
        case measure=>simp[intOf];omega
      . rw[if_neg h0]at Y;have Kh:=H.stored k (J 1);have HN:=qh (qr P k 1 (by rw[Y];rfl));have O:=qh (And.intro Kh V);clear Kh V H Y;go_wp2;go_roundw;case rel=>exact⟨k+1,by go_num,by omega,by have:=O.o.1.1;rw[HN.o]at this;exact this,O.o.2.setCell (Nat.le_refl _) _⟩
        case measure=>simp[intOf];omega
    . obtain rfl:k=P.length:=by omega
      have O:=qh (And.intro H V);clear H V;go_wp2;go_ret;exact⟨_,rfl,by rw[<-yY,y7];exact O.o.1,O.o.2⟩
end
section
open Go.RowKit
def evL(P:List Int)(l:List Int):Bool:=l.all λv=>decide (depL P v=depL P (l.headD 0)/\depL P v<=5)
def te(P:List Int):kJ P=evL P (ac P):=rfl
def td(P:List Int)(l:List Int)(x:Int):evL P (l++[x])=(evL P l&&decide (depL P x=depL P ((l++[x]).headD 0)/\depL P x<=5)):=by
 unfold evL;rw[List.all_append];cases l with
 |nil=>simp
 |cons a l=>simp
theorem vv(P:List Int)(l m:List Int)(h:evL P (l++m)=true):evL P l=true:=by
 unfold evL at *;rw[List.all_append,Bool.and_eq_true]at h;cases l with
 |nil=>rfl
 |cons a l=>exact h.1
def xA{m:List Int}(h:evL P l=false):evL P (l++m)=false:=by
 cases H:evL P (l++m);.rfl
 .rw[vv P l m H]at h;cases h
def jB(P:List Int)(k:Nat):∀m,∃r,am P (k+m)=am P k++r
 |0=>⟨[],by simp⟩
 |m+1=>by
  obtain⟨r,I⟩:=jB P k m;rw[<-Nat.add_assoc,cI];split;.exact⟨r++[((k+m:Nat):Int)],by rw[I,List.append_assoc]⟩
  .exact⟨r,I⟩
def pY(P:List Int)(h:k<=P.length):∃r,ac P=am P k++r:=by obtain⟨r,I⟩:=jB P k (P.length-k);exact⟨r,by rw[<-I];unfold ac;congr 1;omega⟩
def Bt(h:k<=P.length)(hb:evL P (am P k)=false):kJ P=false:=by obtain⟨r,I⟩:=pY P h;rw[te,I];exact xA hb
def oD(h:k<P.length):1<=depL P k:=by unfold depL;obtain⟨n,H⟩:∃n,P.length=n+1:=⟨P.length-1,by omega⟩;rw[H];unfold dep;rw[if_pos ahB];omega
def first(P:List Int)(k:Nat):Nat:=if am P k=[]then 0 else depL P ((am P k).headD 0)
def vz(h:dm P k=false):first P (k+1)=first P k:=by unfold first;rw[cI,h];rfl
def jt(h:dm P v=true):0<=v/\v<P.length/\v∉P:=by simpa[dm]using h
def gJ(h:v∈am P k):dm P v=true/\0<=v/\v<k:=by unfold am at h;rw[List.mem_filter,List.mem_map]at h;obtain⟨⟨a,I,rfl⟩,H⟩:=h;have:=List.mem_range.1 I;exact⟨H,by show(0:Int)<=(a:Int);omega,by show((a:Nat):Int)<k;omega⟩
def yR(I:k<=P.length)(h:am P k≠[]):1<=first P k:=by
 unfold first
 rw[if_neg h];cases H:am P k with
 |nil=>exact absurd H h
 |cons a l=>have:=(gJ (P:=P) (k:=k) (v:=a) (by rw[H];simp)).2;obtain⟨n,rfl⟩:=Int.eq_ofNat_of_zero_le this.1;show 1<=depL P (n:Int);exact oD ahB
def vB(V:k<P.length)(h:dm P k=true):first P (k+1)=(if first P k=0 then depL P k else first P k)/\
    evL P (am P (k+1))=(evL P (am P k)&&decide (depL P k=first P (k+1)/\depL P k<=5)):=by
  have e:am P (k+1)=am P k++[(k:Int)]:=by rw[cI,if_pos h]
  have I:first P (k+1)=depL P ((am P k++[(k:Int)]).headD 0):=by unfold first;rw[e,if_neg ahC]
  refine⟨?_,by rw[e,td,I]⟩;by_cases H:am P k=[];. have:first P k=0:=(by unfold first;rw[if_pos H]);rw[if_pos this,I,H];rfl
  . have:=yR ahB H;rw[if_neg ahB,I];unfold first
    rw[if_neg H];cases O:am P k with
    | nil=>exact absurd O H
    | cons a l=>rfl
def EY(P T:List Int):T.any (λx=>!decide (x∈ac P))=!thrB P T:=by
 unfold thrB;rw[List.not_all_eq_any_not];congr 1;funext x;congr 1;cases h:dm P x;.exact decide_eq_false λhm=>by rw[fR.1 hm]at h;cases h
 .exact decide_eq_true (fR.2 h)
def aR(h:a5 P T=0):iX P T=false/\dW P=true/\kJ P=true/\thrB P T=true:=by
 unfold a5 at h;cases h1:iX P T
 .cases H:dW P;.rw[h1,H]at h;simp at h
  .cases I:kJ P;.rw[h1,H,I]at h;simp at h
   .cases O:thrB P T;.rw[h1,H,I,O]at h;simp at h
    .exact⟨rfl,rfl,rfl,rfl⟩
 .rw[h1]at h;simp at h
def bh(h:iX P T=false):1<=P.length/\P.length<=32/\1<=T.length/\T.length<=32:=by simp only[iX,decide_eq_false_iff_not]at h;omega
def jy(h:thrB P T=true){i:Nat}(hi:T[i]? =some x):x∈ac P:=by unfold thrB at h;rw[List.all_eq_true]at h;exact fR.2 (h x (List.mem_of_getElem? hi))
def jp(P T:List Int):Int:=if a5 P T=0 then((depL P ((ac P).headD 0):Nat):Int)else 0
def DM(h:a5 P T=0)(O:v∈ac P):((depL P v:Nat):Int)=jp P T:=by obtain⟨_,_,H,_⟩:=aR h;unfold jp;rw[if_pos h];unfold kJ at H;rw[List.all_eq_true]at H;have:=H v O;simp only[decide_eq_true_eq]at this;rw[this.1]
def tK(P T:List Int):List Int:=if a5 P T=0 then ac P else[]
end
section
open Go.RowKit
variable{v:Value}
def cf{α:Type}{enc:α->List Value}{l:List α}(h:RdL w v sz enc l):∃A c,v= .slice A l.length c/\l.length<=c/\l.length<=140737488355328:=by obtain⟨A,c,h1,H,I,_⟩:=h;exact⟨A,c,h1,H,I⟩
def gf{A:Option Addr}{c:Nat}(h:RdL w (.slice A n c) 1 encI l)(O:0<l.length):∃b off,A=some ⟨b,off,none⟩/\b<w.heap.size/\∀i x,l[i]? =some x->Z w b (off+i) (J x):=by obtain⟨A',c',e,h1,h2,I⟩:=h;injection e with H e2 e3;subst H;obtain⟨b,off,Y,q2,q3⟩:=I O;refine⟨b,off,Y,q2,λi x V=>?_⟩;have:=q3 i x V 0 _ rfl;simpa using this
def gq(h:iX P T=true):a5 P T=8:=by unfold a5;rw[if_pos h]
def lj(h:iX P T=false)(H:dW P=false):a5 P T=9:=by unfold a5;rw[h,H];rfl
def n5(h:iX P T=false)(H:dW P=true)(I:kJ P=false):a5 P T=9:=by unfold a5;rw[h,H,I];rfl
def xu(h:iX P T=false)(H:dW P=true)(I:kJ P=true):a5 P T=if thrB P T then 0 else 4:=by unfold a5;rw[h,H,I];cases thrB P T<;>rfl
def xK{v:Int}(H:0<=v)(h:v<P.length):(pZ P)[v.toNat]? =some ((depL P v:Nat):Int):=by unfold pZ;rw[i9 _ _ _ ahB];congr 3;omega
def i8(h:w.ownsRow base e sz v n xs)(k:Below w.heap.size w w'):w'.ownsRow base e sz v n xs:=
 aa.own h (aa.of_below (S:=[]) k) (λ_ _=>by simp)
def nG(h:w.ownsRow base e sz v n xs)(g:Nat)(u:Value)(hg:∀b,v.ownBlock=some b->b≠g):(w.setCell ⟨g,0,none⟩ u).ownsRow base e sz v n xs:=
 aa.own h (aa.setCell (aa.refl [g] w) (.inl ahC) u) (λb hb=>by simpa using hg b hb)
def sE{W w1:World}(hb:Below W.heap.size W w1):(∀b o,b<W.heap.size->w1.cell? ⟨b,o,none⟩=W.cell? ⟨b,o,none⟩)/\(∀b o,b<W.heap.size->w1.frozen? ⟨b,o,none⟩=W.frozen? ⟨b,o,none⟩):=
 ⟨λb o h=>hb.cell (p:=⟨b,o,none⟩) h,λb o h=>hb.frozen (p:=⟨b,o,none⟩) h⟩
theorem kw(w:World)(vP vT:Value)(P T:List Int)(hP:RdL w vP 1 encI P)(hT:RdL w vT 1 encI T):E 42 #[agg #[vP,vT]] w λe w'=>e= returned (J (a5 P T))/\Below w.heap.size w w':=by
  have HP:=qh hP;have HT:=qh hT;obtain⟨AP,cP,rfl,SU,SV⟩:=cf hP;obtain⟨AT,cT,rfl,Qo,Qp⟩:=cf hT;clear hP hT;have Kk:Below w.heap.size w (w.alloc (cells #[.slice AP P.length cP,.slice AT T.length cT] 24)):=(Below.refl _ _).alloc (Nat.le_refl _) _;have KZ:=qh Kk;clear Kk;go_enter func42,ntmps42;go_upto_region 1 with fail;go_quiet (fail);have c0:((w.alloc (cells #[.slice AP P.length cP,.slice AT T.length cT] 24)).drewN nq).cell? w.heap.size=some (.slice AP P.length cP):=by simp[World.cell?_alloc_new]
  have c1:((w.alloc (cells #[.slice AP P.length cP,.slice AT T.length cT] 24)).drewN nq).cell? ⟨w.heap.size,1,none⟩=some (.slice AT T.length cT):=by simp[World.cell?_alloc_new]
  have KR:w.heap.size+1<=((w.alloc (cells #[.slice AP P.length cP,.slice AT T.length cT] 24)).drewN nq).heap.size:=by simp[World.drewN]
  have L7:=ce KZ.o nq;clear KZ;generalize ((w.alloc (cells #[.slice AP P.length cP,.slice AT T.length cT] 24)).drewN nq)=wb at *;have HB:=qh L7;have HC:=qh (And.intro c0 c1);have Oa:=qh (HP.o.below L7 (Nat.le_refl _));have RV:=qh (HT.o.below L7 (Nat.le_refl _));clear L7 HP HT;by_cases a1:P.length<1;. have HE:=qh (gq (P:=P) (T:=T) (decide_eq_true (.inl a1)));go_wp2;go_ret;exact⟨aU HE.o.symm,HB.o⟩
  by_cases a2:32<P.length;. have HE:=qh (gq (P:=P) (T:=T) (decide_eq_true (.inr (.inl a2))));go_wp2;go_ret;exact⟨aU HE.o.symm,HB.o⟩
  by_cases a3:T.length<1;. have HE:=qh (gq (P:=P) (T:=T) (decide_eq_true (.inr (.inr (.inl a3)))));go_wp2;go_ret;exact⟨aU HE.o.symm,HB.o⟩
  by_cases a4:32<T.length;. have HE:=qh (gq (P:=P) (T:=T) (decide_eq_true (.inr (.inr (.inr a4)))));go_wp2;go_ret;exact⟨aU HE.o.symm,HB.o⟩
  have HM:=qh (show iX P T=false from decide_eq_false ahB);cases OV:dW P;. have HE:=qh (lj HM.o OV);have HQ:=qh (uO wb _ P Oa.o);rw[OV]at HQ;clear OV;go_wp2_with (go_at_call 82;refine HQ.o.mono ?_;rintro e w' ⟨rfl,rfl⟩);go_ret;exact⟨aU HE.o.symm,HB.o⟩
  have HQ:=qh (uO wb _ P Oa.o);rw[OV]at HQ;have NJ:=qh OV;clear OV;have bd:Below wb.heap.size wb wb.drew:=(Below.refl _ _).drew;go_upto_region 4 with fail;go_wp2_with (go_at_call 82;refine HQ.o.mono ?_;rintro e w' ⟨rfl,rfl⟩);go_cut [5,6] (λs5 s6 wx=>∃g v5,s5= pointer (some ⟨g,0,none⟩)/\wb.heap.size<=g/\Z wx g 0 v5/\wx.ownsRow wb.heap.size 3 1 v5 (ac P).length ((ac P).flatMap encI)/\wx.ownsRow wb.heap.size 3 1 s6 (pZ P).length ((pZ P).flatMap encI)/\Below wb.heap.size wb wx)
  case first=>
    go_region_held3 (λW=>W.cell? w.heap.size=some (.slice AP P.length cP))
      (first|exact c0|exact(bd.cell (p:=w.heap.size) (show w.heap.size<wb.heap.size by omega)).trans c0|exact(k3.cell (p:=w.heap.size) (show w.heap.size<wb.heap.size by omega)).trans c0|exact(H.cell (p:=w.heap.size) (show w.heap.size<wb.heap.size by omega)).trans c0|exact((H.alloc H.size _).cell (p:=w.heap.size) (show w.heap.size<wb.heap.size by omega)).trans c0|exact(((Below.refl wb.heap.size wb).alloc (Nat.le_refl _) _).cell (p:=w.heap.size) (show w.heap.size<wb.heap.size by omega)).trans c0|exact((((Below.refl wb.heap.size wb).alloc (Nat.le_refl _) _).drew).cell (p:=w.heap.size) (show w.heap.size<wb.heap.size by omega)).trans c0|exact((k3.setCell (by first|exact H.size|exact Nat.le_refl _) _).cell (p:=w.heap.size) (show w.heap.size<wb.heap.size by omega)).trans c0|exact((k3.alloc k3.size _).cell (p:=w.heap.size) (show w.heap.size<wb.heap.size by omega)).trans c0|(simp[*];done))
      (first
        | (go_at_call 83;go_loud (refine(oV _ _ P (Oa.o.below (B:=wb.heap.size) (by first|exact bd|exact bd.alloc (Nat.le_refl _) _) (Nat.le_refl _)) NJ.o ahB).mono ?_);rintro e w2 ⟨v2,rfl,o2,b2⟩;obtain⟨Y,c2,rfl⟩:=bE o2;(have H:Below wb.heap.size wb w2:=(by first|exact bd.trans (b2.mono ahC)|exact(bd.alloc (Nat.le_refl _) _).trans (b2.mono ahC)));have LV:=(sE b2).1;have bF:=(sE b2).2;have O2:=qh o2;(first|have ab:wb.heap.size<w2.heap.size:=(by have:=b2.size;simp at this;omega)|have ab:=H.size))
        | (go_at_call 84;go_loud (refine(vK _ _ P (Oa.o.below (B:=wb.heap.size) (by first|exact H|exact H.alloc H.size _|exact H.setCell ahC _|exact(H.alloc H.size _).setCell ahC _) (Nat.le_refl _)) NJ.o ahB).mono ?_);rintro e w3 ⟨v3,rfl,o3,b3⟩;have Wd:=(sE b3).1;have bP:=(sE b3).2;have O3:=qh o3;(have k3:Below wb.heap.size wb w3:=(by first|exact H.trans (b3.mono H.size)|exact(H.alloc H.size _).trans (b3.mono (by simp;have:=H.size;omega))))))
    . have Li:=b3.size;have O:=df ((i8 O2.o b3).alloc (cells #[.slice Y (ac P).length c2] 22)) (b':=wb.heap.size) ahC;have e3:=df (O3.o.alloc (cells #[.slice Y (ac P).length c2] 22)) (b':=wb.heap.size) H.size;have e4:=(H.trans (b3.mono H.size)).alloc (Nat.le_trans H.size b3.size) (cells #[.slice Y (ac P).length c2] 22);have I:=qh (And.intro O (And.intro e3 e4));clear O e3 e4;go_wp2_with fail;go_meet;case rel=>exact⟨_,_,rfl,Nat.le_trans H.size Li,by simp[World.cell?_alloc_new],I.o.1,I.o.2.1,I.o.2.2⟩
    . have Li:=b3.size;have O:=df (nG (i8 (O2.o.alloc (cells #[.slice none 0 0] 22)) b3) w2.heap.size (.slice Y (ac P).length c2) (λb hb=>by have:=(O2.o.lt b hb).2;omega)) (b':=wb.heap.size) ahC;have e3:=df (nG O3.o w2.heap.size (.slice Y (ac P).length c2) (λb hb=>by have:=(O3.o.lt b hb).1;simp at this;omega)) (b':=wb.heap.size) (by simp;have:=H.size;omega);have e4:=((H.alloc H.size (cells #[.slice none 0 0] 22)).trans (b3.mono (by simp;have:=H.size;omega))).setCell (p:=w2.heap.size) H.size (.slice Y (ac P).length c2);have I:=qh (And.intro O (And.intro e3 e4));clear O e3 e4;go_wp2_with fail;go_meet;case rel=>exact⟨_,_,rfl,H.size,World.cell?_setCell_same (u:= .slice none 0 0) _ _ _ (by rw[Wd _ _ ahC];simp[World.cell?_alloc_new]),I.o.1,I.o.2.1,I.o.2.2⟩
    . have Li:=b3.size;have O:=df (nG (i8 O2.o b3) wb.heap.size (.slice Y (ac P).length c2) (λb hb=>by have:=(O2.o.lt b hb).1;simp at this;omega)) (b':=wb.heap.size) ahC;have e3:=df (nG O3.o wb.heap.size (.slice Y (ac P).length c2) (λb hb=>by have:=(O3.o.lt b hb).1;omega)) (b':=wb.heap.size) H.size;have e4:=(H.trans (b3.mono H.size)).setCell (p:=wb.heap.size) (Nat.le_refl _) (.slice Y (ac P).length c2);have I:=qh (And.intro O (And.intro e3 e4));clear O e3 e4;go_wp2_with fail;go_meet;case rel=>exact⟨_,_,rfl,Nat.le_refl _,World.cell?_setCell_same (u:= .slice none 0 0) _ _ _ (by rw[Wd _ _ ahB,LV _ _ ahC];simp[World.cell?_alloc_new]),I.o.1,I.o.2.1,I.o.2.2⟩
  case rest=>
    clear Oa HQ bd c0 c1;obtain⟨g,v5,rfl,hg,Wp,o5,o6,bc⟩:=hcut;have Lz:=a8 P P.length;have Ou:(ac P).length<=32:=(by show(am P P.length).length<=_;omega);have Pk:(pZ P).length=P.length:=(by simp[pZ]);have R5:=dO o5 ahB;have R6:=dO o6 ahB;have Ts:=qh R5;obtain⟨A5,c5,rfl,k5,_⟩:=cf R5;obtain⟨A6,c6,rfl,k6,_⟩:=cf R6;have f0:=(bc.cell (p:=w.heap.size) (show w.heap.size<wb.heap.size by omega)).trans HC.o.1;have f1:=(bc.cell (p:=⟨w.heap.size,1,none⟩) (show w.heap.size<wb.heap.size by omega)).trans HC.o.2;have Yx:=qh (RV.o.below bc (Nat.le_refl _));have RK:=qh (HB.o.trans (bc.mono HB.o.size));have S3:=qh (And.intro R5 R6);clear R5 R6 o5 o6 bc RV HB HC;go_wp2;go_loopw [41] (λi wr=>∃j m:Nat,i= J j/\j<=(ac P).length/\evL P ((ac P).take j)=true/\wr=wc.drewN m) (λi _=>(ac P).length-(intOf i).toNat);case atStart=>exact⟨0,0,rfl,by omega,rfl,rfl⟩
    case round=>
      obtain⟨j,mm,rfl,hj,Lx,rfl⟩:=hrel;by_cases NC:j<(ac P).length
      . obtain⟨b5,ax,Y7,NN,TZ⟩:=gf S3.o.1 ahB;obtain⟨b6,bw,Y8,bA,Ua⟩:=gf S3.o.2 (by rw[Pk];omega);subst Y7 Y8;obtain⟨x,hx⟩:=ai NC;obtain⟨y,hy⟩:=ai (show 0<(ac P).length by omega);have M2:=gJ (P:=P) (k:=P.length) (List.mem_of_getElem? hx);have Qn:=gJ (P:=P) (k:=P.length) (List.mem_of_getElem? hy);obtain⟨x,rfl⟩:=Int.eq_ofNat_of_zero_le M2.2.1;obtain⟨y,rfl⟩:=Int.eq_ofNat_of_zero_le Qn.2.1;have q1:=TZ j _ hx;have q2:=TZ 0 _ hy;have q3:=Ua x _ (by have:=xK (P:=P) M2.2.1 M2.2.2;simpa using this);have q4:=Ua y _ (by have:=xK (P:=P) Qn.2.1 Qn.2.2;simpa using this);simp only[Nat.add_zero]at q2;have ad:x<P.length:=(by have:=M2.2.2;omega);have al:y<P.length:=(by have:=Qn.2.2;omega);have UJ:(ac P).take (j+1)=(ac P).take j++[(x:Int)]:=bJ hx
        have Wt:((ac P).take j++[(x:Int)]).headD 0=(y:Int):=by
          rw[<-UJ];cases hl:ac P with
          | nil=>rw[hl]at hy;cases hy
          | cons a l=>rw[hl]at hy;simp at hy;simp[hy]
        have Ug:=td P ((ac P).take j) x;rw[Lx,Bool.true_and,Wt,<-UJ]at Ug;obtain⟨d,hd⟩:∃d:Int,d=((depL P x:Nat):Int):=⟨_,rfl⟩;obtain⟨d0,Na⟩:∃d:Int,d=((depL P y:Nat):Int):=⟨_,rfl⟩;rw[<-hd]at q3;rw[<-Na]at q4;have HV:=qh (And.intro Ug (And.intro hd Na));have P4:evL P ((ac P).take (j+1))=false->kJ P=false:=λh=>by have:=xA (m:=(ac P).drop (j+1)) h;rwa [List.take_append_drop]at this
        have PR:=qh P4;clear hx hy M2 Qn UJ Wt Ug hd Na Lx TZ Ua P4;cases e1:(d !=d0)
        . cases O:decide (5<d)
          . have V:=qh (show evL P ((ac P).take (j+1))=true from by
              rw[HV.o.1];have:=HV.o.2;simp only[bne_eq_false_iff_eq,decide_eq_false_iff_not]at e1 O
              exact decide_eq_true ahB)
            go_wp2_with fail;go_quiet (fail);go_wp2;go_roundw;case rel=>exact⟨j+1,_,by go_num,by omega,V.o,rfl⟩
            case measure=>simp[intOf];omega
          . have V:=qh (n5 (T:=T) HM.o NJ.o (PR.o (by
              rw[HV.o.1];have:=HV.o.2;simp only[decide_eq_true_eq]at O
              exact decide_eq_false ahB)))
            go_wp2_with fail;go_quiet (fail);go_wp2;go_ret;exact⟨aU V.o.symm,ce (ce RK.o _) _⟩
        . have V:=qh (n5 (T:=T) HM.o NJ.o (PR.o (by
            rw[HV.o.1];have:=HV.o.2;simp only[bne_iff_ne]at e1
            exact decide_eq_false ahB)))
          go_wp2_with fail;go_quiet (fail);go_wp2;go_ret;exact⟨aU V.o.symm,ce (ce RK.o _) _⟩
      . obtain rfl:j=(ac P).length:=by omega
        rw[List.take_length,<-te]at Lx;have V:=qh (xu (T:=T) HM.o NJ.o Lx);have NO:=my (wc.drewN mm) g _ _ (ac P) T (show(wc.drewN mm).cell? ⟨g,0,none⟩=_ from Wp) (S3.o.1.drewN mm) (Yx.o.drewN mm);rw[EY]at NO;clear Lx;cases SM:thrB P T;. rw[SM]at NO V;have HC:=qh NO;clear NO SM;go_wp2_with (go_at_call 85;refine HC.o.mono ?_;rintro e w' ⟨rfl,rfl⟩);go_ret;exact⟨aU V.o.symm,ce RK.o _⟩
        . rw[SM]at NO V;have HC:=qh NO;clear NO SM;go_wp2_with (go_at_call 85;refine HC.o.mono ?_;rintro e w' ⟨rfl,rfl⟩);go_ret;exact⟨aU V.o.symm,ce RK.o _⟩
def uN(w:World)(h H:Value)(P T:List Int)(Y:RdL w h 1 encI P)(hT:RdL w H 1 encI T):E 185 #[agg #[h,H]] w λe w'=>∃v,e= returned v/\w'.ownsRow w.heap.size 3 1 v (tK P T).length ((tK P T).flatMap encI)/\Below w.heap.size w w':=by
  have Kk:Below w.heap.size w (w.alloc (cells #[h,H] 24)):=(Below.refl _ _).alloc (Nat.le_refl _) _;have I:=qh (kw (w.alloc (cells #[h,H] 24)) h H P T (Y.alloc _) (hT.alloc _));have HP:=qh Y;have O:=qh Kk;obtain⟨AP,cP,rfl,SU,SV⟩:=cf Y;obtain⟨AT,cT,rfl,Qo,Qp⟩:=cf hT;clear Y hT Kk;go_enter func185,ntmps185;by_cases hc:a5 P T=0;. have HL:=qh (show tK P T=ac P from by unfold tK;rw[if_pos hc]);obtain⟨hm,ht,_,_⟩:=aR hc;have KX:=bh hm;have HT:=qh ht;rw[hc]at I;clear hc hm ht;go_wp2_with fail;refine Pi I.o λw1 b1=>?_;have LD:=(sE b1).1;have Kl:=b1.size;simp at Kl;have V:=qh (O.o.trans (b1.mono O.o.size));clear b1;go_wp2_with fail;refine(oV _ _ P (HP.o.below V.o (Nat.le_refl _)) HT.o ahB).mono ?_;rintro en w2 ⟨v2,rfl,o2,b2⟩;have HO:=qh (And.intro o2 b2);clear o2 b2;go_wp2;go_ret;exact⟨_,rfl,by rw[HL.o];exact df HO.o.1 ahB,V.o.trans (HO.o.2.mono ahB)⟩
  . have HL:=qh (show tK P T=[]from by unfold tK;rw[if_neg hc]);obtain⟨z,hz⟩:=LE (a5 P T);rw[<-hz]at I hc;have Kr:(z !=0)=true:=(by simpa using hc);clear hc hz;go_wp2_with fail;refine Op I.o λw1 b1=>?_;have V:=qh (O.o.trans (b1.o.mono O.o.size));go_wp2;go_ret;exact⟨_,rfl,by rw[HL.o];exact World.ownsRow_nil _ _ _ _,V.o⟩
end
section
open Go.RowKit
variable{f:Nat}
def D7(w:World)(v:Value)(l:List Int)(x:Int)(h:RdL w v 1 encI l):E 134 #[v,J x] w λe w'=>e= returned (bool (decide (x∈l)))/\w=w':=by
  obtain⟨A,cap,rfl,l1,l2,I⟩:=h;have HR:=qh I;clear I;go_enter func134,ntmps134;go_wp2;go_loop [5] (λi=>∃k:Nat,i= J k/\k<=l.length/\x∉l.take k) (λi=>l.length-(intOf i).toNat);case atStart=>exact⟨0,rfl,by omega,by simp⟩
  case round=>
    obtain⟨k,rfl,hk,H⟩:=hrel;by_cases I':k<l.length
    . obtain⟨bl,off,rfl,KQ,hc⟩:=HR.o ahB;obtain⟨y,Y⟩:=ai I';have c0:=hc k y Y 0 _ rfl;simp only[Nat.add_zero,Nat.mul_one]at c0;have O:=qh (And.intro Y H);clear hc Y H;cases V:(y==x)
      . have ab:Kq (x∉l.take (k+1)):=qh (by
          rw[iZ O.o.1];rintro(h|h);. exact O.o.2 h
          . rw[h]at V;simp at V)
        go_wp2;go_round;case rel=>exact⟨k+1,by go_num,by omega,ab.o⟩
        case measure=>simp[intOf];omega
      . have hid:Kq (x∈l):=qh (by rw[<-beq_iff_eq.1 V];exact List.mem_of_getElem? O.o.1);go_wp2;go_ret;exact⟨az (decide_eq_true hid.o).symm,rfl⟩
    . obtain rfl:k=l.length:=by omega
      rw[List.take_length]at H;have hid:Kq (x∉l):=qh H;clear H;go_wp2;go_ret;exact⟨az (decide_eq_false hid.o).symm,rfl⟩
def qB(w:World)(v:Value)(P:List Int)(x:Int)(h:RdL w v 1 encI P):E 101 #[v,J x] w λe w'=>e= returned (bool (dm P x))/\w=w':=by
  have Y:=qh (D7 w v P x h);obtain⟨A,cap,rfl,l1,l2,I⟩:=h;clear I
  have H:=qh (show dm P x=(decide (0<=x)&&decide (x<P.length)&&!decide (x∈P))from by
    unfold dm
    by_cases h1:0<=x<;>by_cases O:x<P.length<;>by_cases V:x∈P<;>simp[h1,O,V])
  go_enter func101,ntmps101;cases h1:decide (0<=x);. rw[h1]at H;have VO:¬0<=x:=of_decide_eq_false h1;go_wp2;go_ret;exact⟨az H.o.symm,rfl⟩
  . cases O:decide (x<P.length);. rw[h1,O]at H;have VO:0<=x:=of_decide_eq_true h1;have TP:¬x<P.length:=of_decide_eq_false O;go_wp2;go_ret;exact⟨az H.o.symm,rfl⟩
    . rw[h1,O]at H;have VO:0<=x:=of_decide_eq_true h1;have TP:x<P.length:=of_decide_eq_true O;cases V:decide (x∈P);. rw[V]at H Y;clear V;go_wp2_with (go_at_call 134;refine Y.o.mono ?_;rintro e w' ⟨rfl,rfl⟩);go_ret;exact⟨az H.o.symm,rfl⟩
      . rw[V]at H Y;clear V;go_wp2_with (go_at_call 134;refine Y.o.mono ?_;rintro e w' ⟨rfl,rfl⟩);go_ret;exact⟨az H.o.symm,rfl⟩
def sX(h:¬(0<=v/\v<P.length)):dep P f v=0:=by
 cases f with
 |zero=>rfl
 |succ f=>unfold dep;rw[if_neg h]
def FW{p:Int}(H:0<=v)(h:P[v.toNat]? =some p):dep P (f+1) v=dep P f p+1:=by have:=(List.getElem?_eq_some_iff.1 h).1;show(if 0<=v/\v<P.length then dep P f (P.getD v.toNat 0)+1 else 0)=_;rw[if_pos ahB,bm h]
def zu(w:World)(v:Value)(P:List Int)(x:Int)(h:RdL w v 1 encI P):E 102 #[v,J x] w λe w'=>e= returned (J ((depL P x:Nat):Int))/\w=w':=by
  obtain⟨A,cap,rfl,l1,l2,I⟩:=h;have HR:=qh I;clear I;go_enter func102,ntmps102;go_wp2;go_loop [1,5,6] (λy m i=>∃(k n:Nat) (z:Int),i= J k/\m= J n/\y= J z/\k<=P.length/\n<=k/\n+dep P (P.length-k) z=depL P x) (λ_ _ i=>P.length-(intOf i).toNat);case atStart=>exact⟨0,0,x,rfl,rfl,rfl,by omega,by omega,by simp[depL]⟩
  case round=>
    obtain⟨k,n,z,rfl,rfl,rfl,hk,hn,hd⟩:=hrel;have O:=qh hd;clear hd;by_cases I':k<P.length
    . by_cases h0:0<=z
      . by_cases h1:z<P.length
        . obtain⟨bl,off,rfl,KQ,hc⟩:=HR.o ahB;obtain⟨m,rfl⟩:=Int.eq_ofNat_of_zero_le h0;obtain⟨p,V⟩:=ai (show m<P.length by omega);have c0:=hc m p V 0 _ rfl;simp only[Nat.add_zero,Nat.mul_one]at c0
          have Y:=qh (show n+1+dep P (P.length-(k+1)) p=depL P x from by
            have:=O.o;rw[show P.length-k=P.length-(k+1)+1 by omega,FW ahB (by simpa using V)]at this
            omega)
          clear hc V;go_wp2;go_round;case rel=>exact⟨k+1,n+1,p,by go_num,by go_num,rfl,by omega,by omega,Y.o⟩
          case measure=>simp[intOf];omega
        . have H:=qh (show n=depL P x from by have:=O.o;rw[sX ahB]at this;omega);go_wp2;go_ret;exact⟨aU (by rw[H.o]),rfl⟩
      . have H:=qh (show n=depL P x from by have:=O.o;rw[sX ahB]at this;omega);go_wp2;go_ret;exact⟨aU (by rw[H.o]),rfl⟩
    . have H:=qh (show n=depL P x from by have:=O.o;rw[show P.length-k=0 by omega]at this;exact this);go_wp2;go_ret;exact⟨aU (by rw[H.o]),rfl⟩
end
section
open Go.RowKit
theorem wD(w:World)(vP vT:Value)(P T:List Int)(hP:RdL w vP 1 encI P)(hT:RdL w vT 1 encI T):E 48 #[agg #[vP,vT]] w λe w'=>e= returned (J (a5 P T))/\Below w.heap.size w w':=by
  have Kk:Below w.heap.size w (w.alloc (cells #[vP,vT] 24)):=(Below.refl _ _).alloc (Nat.le_refl _) _;have O:=qh Kk;have Oa:=qh (hP.alloc (cells #[vP,vT] 24));have RV:=qh (hT.alloc (cells #[vP,vT] 24));obtain⟨AP,cP,rfl,SU,SV⟩:=cf hP;obtain⟨AT,cT,rfl,Qo,Qp⟩:=cf hT;clear hP hT Kk;have c0:(w.alloc (cells #[.slice AP P.length cP,.slice AT T.length cT] 24)).cell? w.heap.size=some (.slice AP P.length cP):=by simp[World.cell?_alloc_new]
  have c1:(w.alloc (cells #[.slice AP P.length cP,.slice AT T.length cT] 24)).cell? ⟨w.heap.size,1,none⟩=some (.slice AT T.length cT):=by simp[World.cell?_alloc_new]
  go_enter func48,ntmps48;go_upto_region 1 with fail;generalize (w.alloc (cells #[.slice AP P.length cP,.slice AT T.length cT] 24))=wb at *;by_cases a1:P.length<1;. have HE:=qh (gq (P:=P) (T:=T) (decide_eq_true (.inl a1)));go_wp2;go_ret;exact⟨aU HE.o.symm,O.o⟩
  by_cases a2:32<P.length;. have HE:=qh (gq (P:=P) (T:=T) (decide_eq_true (.inr (.inl a2))));go_wp2;go_ret;exact⟨aU HE.o.symm,O.o⟩
  by_cases a3:T.length<1;. have HE:=qh (gq (P:=P) (T:=T) (decide_eq_true (.inr (.inr (.inl a3)))));go_wp2;go_ret;exact⟨aU HE.o.symm,O.o⟩
  by_cases a4:32<T.length;. have HE:=qh (gq (P:=P) (T:=T) (decide_eq_true (.inr (.inr (.inr a4)))));go_wp2;go_ret;exact⟨aU HE.o.symm,O.o⟩
  have HM:=qh (show iX P T=false from decide_eq_false ahB);have H0:=qh (gf Oa.o ahB);obtain⟨p0,KF⟩:=ai (show 0<P.length by omega);obtain⟨b,off,hA,hb,hc⟩:=H0.o;subst hA;have q0:=hc 0 p0 KF;simp only[Nat.add_zero]at q0;have HC:=qh hc;have PT:=qh KF;clear hc KF H0;go_upto_region 3 with fail;by_cases hz:p0= -1
  . subst hz
    have Yt:=qh (show(List.range 1).all (okP P)=true from by
      have:=bm PT.o;show(okP P 0&&true)=true;rw[Bool.and_true]
      exact decide_eq_true ⟨λ_=>this,λh=>absurd h ahB⟩)
    go_wp2;go_loop [3] (λi=>∃k:Nat,i= J k/\1<=k/\k<=P.length/\(List.range k).all (okP P)=true) (λi=>P.length-(intOf i).toNat);case atStart=>exact⟨1,rfl,by omega,by omega,Yt.o⟩
    case round=>
      obtain⟨k,rfl,ad,hk,Y⟩:=hrel;by_cases I':k<P.length
      . obtain⟨p,hp⟩:=ai I';have q1:=HC.o k p hp;have HP:=qh (And.intro (bm hp) Y);clear hp Y;by_cases g0:p<0;. have H:=qh (lj HM.o (ku I' (decide_eq_false (by rw[HP.o.1];omega))));go_wp2;go_ret;exact⟨aU H.o.symm,O.o⟩
        . by_cases g1:(k:Int)<=p;. have H:=qh (lj HM.o (ku I' (decide_eq_false (by rw[HP.o.1];omega))));go_wp2;go_ret;exact⟨aU H.o.symm,O.o⟩
          . have H:=qh (show(List.range (k+1)).all (okP P)=true from by
              rw[jV,HP.o.2,Bool.true_and]
              exact decide_eq_true (by rw[HP.o.1];omega))
            go_wp2;go_round;case rel=>exact⟨k+1,by go_num,by omega,by omega,H.o⟩
            case measure=>simp[intOf];omega
      . obtain rfl:k=P.length:=by omega
        have NJ:=qh (show dW P=true from Y);clear Y;go_wp2;go_loop [4,5] (λf i=>∃k:Nat,i= J k/\k<=P.length/\f= J (first P k:Nat)/\evL P (am P k)=true) (λ_ i=>P.length-(intOf i).toNat);case atStart=>exact⟨0,rfl,by omega,rfl,rfl⟩
        case round=>
          obtain⟨k,rfl,hk,rfl,Lx⟩:=hrel;by_cases I':k<P.length
          . have V:=qh (qB wb _ P k Oa.o);have Qw:=qh Lx;clear Lx;cases I:dm P k
            . have H:=qh (And.intro (vz I) (show am P (k+1)=am P k from by rw[cI,I];rfl));rw[I]at V;clear I;go_wp2_with (go_at_call 101;refine V.o.mono ?_;rintro e w' ⟨rfl,rfl⟩);go_round;case rel=>exact⟨k+1,by go_num,by omega,by rw[H.o.1],by rw[H.o.2];exact Qw.o⟩
              case measure=>simp[intOf];omega
            . have Kh:=vB I' I;rw[Qw.o,Bool.true_and]at Kh;have HD:=qh (zu wb _ P k Oa.o);rw[I]at V;have Ms:=oD I';obtain⟨d,hd⟩:=LE (depL P k);obtain⟨f,hf⟩:=LE (first P k);rw[<-hd]at HD Kh Ms;rw[<-hf]at Kh ⊢;have LN:=qh (And.intro Kh (And.intro hd hf));have P4:evL P (am P (k+1))=false->a5 P T=9:=λh=>n5 HM.o NJ.o (Bt ahB h);have PR:=qh P4;clear Kh hd hf P4 I;by_cases f0:f=0
              . subst f0;by_cases g1:5<d;. have H:=qh (PR.o (by rw[LN.o.1.2];exact decide_eq_false ahB));go_wp2_with (first|(go_at_call 101;refine V.o.mono ?_;rintro e w' ⟨rfl,rfl⟩)|(go_at_call 102;refine HD.o.mono ?_;rintro e w' ⟨rfl,rfl⟩));go_ret;exact⟨aU H.o.symm,O.o⟩
                . have HF:=qh (show first P (k+1)=d from by rw[LN.o.1.1];rfl);have H:=qh (show evL P (am P (k+1))=true from by rw[LN.o.1.2];exact decide_eq_true ⟨by rw[HF.o],by omega⟩);go_wp2_with (first|(go_at_call 101;refine V.o.mono ?_;rintro e w' ⟨rfl,rfl⟩)|(go_at_call 102;refine HD.o.mono ?_;rintro e w' ⟨rfl,rfl⟩));go_round;case rel=>exact⟨k+1,by go_num,by omega,by rw[HF.o],H.o⟩
                  case measure=>simp[intOf];omega
              . have HF:=qh (show first P (k+1)=f from by rw[LN.o.1.1,if_neg f0]);have e0:(f==0)=false:=(by simpa using f0);have ab:((f:Int)==0)=false:=(by rw[beq_eq_false_iff_ne];omega);by_cases g0:d=f
                . subst g0;by_cases g1:5<d;. have H:=qh (PR.o (by rw[LN.o.1.2];exact decide_eq_false ahB));go_wp2_with (first|(go_at_call 101;refine V.o.mono ?_;rintro e w' ⟨rfl,rfl⟩)|(go_at_call 102;refine HD.o.mono ?_;rintro e w' ⟨rfl,rfl⟩));go_ret;exact⟨aU H.o.symm,O.o⟩
                  . have H:=qh (show evL P (am P (k+1))=true from by rw[LN.o.1.2];exact decide_eq_true ⟨by rw[HF.o],by omega⟩);go_wp2_with (first|(go_at_call 101;refine V.o.mono ?_;rintro e w' ⟨rfl,rfl⟩)|(go_at_call 102;refine HD.o.mono ?_;rintro e w' ⟨rfl,rfl⟩));go_round;case rel=>exact⟨k+1,by go_num,by omega,by rw[HF.o],H.o⟩
                    case measure=>simp[intOf];omega
                . have H:=qh (PR.o (by rw[LN.o.1.2];exact decide_eq_false (by rw[HF.o];omega)));have e1:(d !=f)=true:=(by simpa using g0);have R4:((d:Int) !=(f:Int))=true:=(by rw[bne_iff_ne];omega);go_wp2_with (first|(go_at_call 101;refine V.o.mono ?_;rintro e w' ⟨rfl,rfl⟩)|(go_at_call 102;refine HD.o.mono ?_;rintro e w' ⟨rfl,rfl⟩));go_ret;exact⟨aU H.o.symm,O.o⟩
          . obtain rfl:k=P.length:=by omega
            have Qw:=qh (xu (T:=T) HM.o NJ.o Lx);have No:=qh (gf RV.o ahB);obtain⟨bt,Xu,Y',Pf,Nz⟩:=No.o;subst Y';have Mk:=qh Nz;clear Nz Lx No;go_wp2;go_loopw [7] (λi wr=>∃j:Nat,i= J j/\j<=T.length/\(T.take j).all (dm P)=true/\Qt wb wr) (λi _=>T.length-(intOf i).toNat);case atStart=>exact⟨0,rfl,by omega,rfl,Qt.refl _⟩
            case round=>
              obtain⟨j,rfl,hj,Y,hq⟩:=hrel;obtain⟨wq,rfl⟩:∃wq:World,wq=wr:=⟨_,rfl⟩;have d0:wq.cell? w.heap.size=some (slice (some ⟨b,off,none⟩) P.length cP):=(by obtain⟨n,rfl⟩:=hq;exact c0);have d1:Z wq w.heap.size 1 (slice (some ⟨bt,Xu,none⟩) T.length cT):=(by obtain⟨n,rfl⟩:=hq;exact c1);have HQ:=qh hq;by_cases Pn:j<T.length
              . obtain⟨x,hx⟩:=ai Pn;have q2:Z wq bt (Xu+j) (J x):=(by obtain⟨n,rfl⟩:=hq;exact Mk.o j x hx);have HX:=qh (And.intro hx Y);have V:=qh (λn=>(qB (wq.drewN n) _ P x ((Oa.o.qt HQ.o).drewN n)).mono λ_ _ h=>And.intro h.1 h.2.symm);clear hx Y hq;cases I:dm P x
                . have H:=qh (show a5 P T=4 from by
                    rw[Qw.o,if_neg];intro h;unfold thrB at h;rw[List.all_eq_true]at h;rw[h x (List.mem_of_getElem? HX.o.1)]at I
                    cases I)
                  rw[I]at V;clear I;go_wp2_with fail;go_quiet ((go_at_call 101;exact Calls.quiet_of_same (V.o _)));go_wp2;go_ret;exact⟨aU H.o.symm,ce (O.o.trans ((HQ.o.below _).mono O.o.size)) _⟩
                . have H:=qh (show(T.take (j+1)).all (dm P)=true from by rw[bJ HX.o.1,List.all_append,HX.o.2];simp[I]);rw[I]at V;clear I;go_wp2_with fail;go_quiet ((go_at_call 101;exact Calls.quiet_of_same (V.o _)));go_wp2;go_roundw;case rel=>exact⟨j+1,by go_num,by omega,H.o,HQ.o.trans ⟨_,rfl⟩⟩
                  case measure=>simp[intOf];omega
              . obtain rfl:j=T.length:=by omega
                rw[List.take_length]at Y;have H:=qh (show a5 P T=0 from by rw[Qw.o,if_pos (show thrB P T=true from Y)]);clear Y hq;go_wp2;go_ret;exact⟨aU H.o.symm,O.o.trans ((HQ.o.below _).mono O.o.size)⟩
  . have H:=qh (lj (P:=P) HM.o (ku (k:=0) ahB (decide_eq_false (by rw[bm PT.o];omega))));have e1:(p0 != -1)=true:=(by simpa using hz);clear hz;go_wp2;go_ret;exact⟨aU H.o.symm,O.o⟩
end
section
open Go.RowKit
def pp(b:Int)(w:World)(I:0<=b)(h1:b<=1000):E 135 #[J b] w λe w'=>e= returned (bool true)/\w=w':=by
 have h:E 171 #[J b,J 0,J 1000] w λe w'=>e= returned (bool true)/\w=w':=by go_enter func171,ntmps171;exact aaa
 have H:=qh h;clear h;go_enter func135,ntmps135;go_wp2_with fail;refine LT H.o ?_;exact aaa
def jZ(P T:List Int)(m:Int):Bool:=decide (a5 P T=0/\(T.length:Int)<=m)
def CY(w:World)(h H:Value)(P T:List Int)(hP:RdL w h 1 encI P)(hT:RdL w H 1 encI T)(m:Int):E 10 #[agg #[h,H],J m] w λe w'=>e= returned (bool (jZ P T m))/\Below w.heap.size w w':=by
  have HC:=qh (wD (w.alloc (cells #[h,H] 24)) h H P T (hP.alloc _) (hT.alloc _));have I:=qh ((Below.refl w.heap.size w).alloc (Nat.le_refl _) (cells #[h,H] 24));obtain⟨AP,cP,rfl,SU,SV⟩:=cf hP;obtain⟨O,cT,rfl,Qo,Qp⟩:=cf hT;have hX:(w.alloc (cells #[.slice AP P.length cP,.slice O T.length cT] 24)).cell? ⟨w.heap.size,1,none⟩=some (.slice O T.length cT):=by simp[World.cell?_alloc_new]
  have Y:w.heap.size<(w.alloc (cells #[.slice AP P.length cP,.slice O T.length cT] 24)).heap.size:=by simp
  clear hP hT;by_cases hc:a5 P T=0;. have t0:(a5 P T==0)=true:=(by simpa using hc);have V:Kq (jZ P T m=decide ((T.length:Int)<=m)):=qh (by unfold jZ;simp[hc]);clear hc;go_enter func10,ntmps10;go_wp2_with fail;refine Op HC.o λw1 b1=>?_;have f1:=(b1.o.cell (p:=⟨w.heap.size,1,none⟩) Y).trans hX;have Lu:=qh (I.o.trans (b1.o.mono I.o.size));clear hX Y;go_wp2;go_ret;rw[V.o];exact⟨rfl,Lu.o⟩
  . have t0:(a5 P T==0)=false:=(by simpa using hc);have V:Kq (jZ P T m=false):=qh (by unfold jZ;simp[hc]);clear hc hX Y;go_enter func10,ntmps10;go_wp2_with fail;refine Op HC.o λw1 b1=>?_;have Lu:=qh (I.o.trans (b1.o.mono I.o.size));go_wp2;go_ret;rw[V.o];exact⟨rfl,Lu.o⟩
def Am(w:World)(vP vT:Value)(m:Int):Prop:=∀W,Below w.heap.size w W->E 10 #[agg #[vP,vT],J m] W λe w'=>e= returned (bool false)/\Below W.heap.size W w'
def Am.of{h H:Value}{m:Int}(I:RdL w h 1 encI P)(O:RdL w H 1 encI T)(hs:jZ P T m=false):Am w h H m:=λW b=>by
 have:=CY W h H P T (I.below b (Nat.le_refl _)) (O.below b (Nat.le_refl _)) m
 rw[hs]at this
 exact this
theorem wE(w:World)(I O:Option Addr)(H cP nT V:Nat)(h:32<H\/32<nT)(h1:H<=9223372036854775807)(h2:nT<=9223372036854775807):E 48 #[agg #[.slice I H cP,.slice O nT V]] w λe w'=>e= returned (J 8)/\Below w.heap.size w w':=by
  have Y:=qh ((Below.refl w.heap.size w).alloc (Nat.le_refl _) (cells #[.slice I H cP,.slice O nT V] 24));have c0:(w.alloc (cells #[.slice I H cP,.slice O nT V] 24)).cell? w.heap.size=some (.slice I H cP):=by simp[World.cell?_alloc_new]
  have c1:(w.alloc (cells #[.slice I H cP,.slice O nT V] 24)).cell? ⟨w.heap.size,1,none⟩=some (.slice O nT V):=by simp[World.cell?_alloc_new]
  go_enter func48,ntmps48;go_upto_region 1 with fail;generalize (w.alloc (cells #[.slice I H cP,.slice O nT V] 24))=wb at *;by_cases a1:H<1;. go_wp2;go_ret;exact⟨rfl,Y.o⟩
  by_cases a2:32<H;. go_wp2;go_ret;exact⟨rfl,Y.o⟩
  have a4:32<nT:=by omega
  have a3:¬nT<1:=by omega
  clear h;go_wp2;go_ret;exact⟨rfl,Y.o⟩
def Am.raw(w:World)(I O:Option Addr)(H cP nT V:Nat)(m:Int)(h:32<H\/32<nT)(h1:H<=9223372036854775807)(h2:nT<=9223372036854775807):Am w (.slice I H cP) (.slice O nT V) m:=λW _=>by
 have HC:=qh (λw=>wE w I O H cP nT V h h1 h2)
 have Y:=qh ((Below.refl W.heap.size W).alloc (Nat.le_refl _) (cells #[.slice I H cP,.slice O nT V] 24))
 clear h h1 h2
 go_enter func10,ntmps10
 go_wp2_with fail
 refine Op (HC.o _) λw1 b1=>?_
 have Lu:=qh (Y.o.trans (b1.o.mono Y.o.size))
 go_wp2
 go_ret
 exact⟨rfl,Lu.o⟩
end
section
open Go Go.RowKit
def uT(w:World)(a g n:Nat)(ms:MS n)(e:Ending)(w':World):Prop:=
 ∃(b:ms.1.β) (lb:Nat),e= returned (tuple #[lkP lb,J 0])/\ms.1.Good/\ms.1.ok ms.2 0/\ms.1.is b w' a g lb ms.2/\(∀x∈ms.1.fp b,w.heap.size<=x\/x=a\/x=g)/\min a g<=ms.1.bt b/\aa [a,g] w w'
def Awk(f:FuncId):Prop:=∀W,Calls prog f #[] W λe w'=>e= returned (bool true)/\Below W.heap.size W w'
end
section
open Go.RowKit
def um(w:World):(callFunc 202 #[]).run prog w= .ok (.value (tuple #[])) w:=run_call_mark0 func202 ahE ahE ahE .disable ahE w
def xV(w:World):(callFunc 204 #[]).run prog w= .ok (.value (tuple #[])) w:=run_call_mark0 func204 ahE ahE ahE .enable ahE w
def rM(a:Addr)(w:World):(callFunc 205 #[.pointer (some a)]).run prog w= .ok (.value (tuple #[])) w:=run_call_marked func205 ahE ahE ahE .acquire ahE a w
def rO(a:Addr)(w:World):(callFunc 207 #[.pointer (some a)]).run prog w= .ok (.value (tuple #[])) w:=run_call_marked func207 ahE ahE ahE .releaseMerge ahE a w
def vI(a:Addr)(w:World)(hc:w.cell? a=some (.int .i32 0))(H:w.frozen? a=false):E 198 #[.pointer (some a)] w λe w'=>e= returned (tuple #[])/\w'=w.setCell a (.int .i32 1):=by have hd:=um;have Y:=xV;have V:=rM;have I:=run_call_cas_hit (P:=prog) func203 ahE ahE ahE .i32 ahE (y:=1) hc H;have h:(w.setCell a (.int .i32 1)).cell? a=some (.int .i32 1):=World.cell?_setCell_same w a _ hc;have O:=run_convert_to_unsafe (P:=prog) (src:=381) (dst:=375) Tryz.underlying381 Tryz.underlying375 ahE h;go_enter func198,ntmps198;go_wp2;first|(go_end0;exact⟨rfl,rfl⟩)|exact bodyPost_ret (results_none rfl _ _ _) rfl ⟨rfl,rfl⟩|((simp only[Exit.inBlock,Exit.then]);exact bodyPost_ret (results_none rfl _ _ _) rfl ⟨rfl,rfl⟩)
def zf(a:Addr)(w:World)(hc:w.cell? a=some (.int .i32 0))(H:w.frozen? a=false):E 192 #[.pointer (some a)] w λe w'=>e= returned (tuple #[])/\w'=w.setCell a (.int .i32 1):=by have h:=qh (vI a w hc H);go_enter func192,ntmps192;go_wp2_with fail;refine LT h.o ?_;go_wp2;first|(go_end0;exact⟨rfl,rfl⟩)|exact bodyPost_ret (results_none rfl _ _ _) rfl ⟨rfl,rfl⟩|((simp only[Exit.inBlock,Exit.then]);exact bodyPost_ret (results_none rfl _ _ _) rfl ⟨rfl,rfl⟩)
def rh(a:Addr)(w:World)(hc:w.cell? a=some (.int .i32 1))(h:w.frozen? a=false):E 199 #[.pointer (some a)] w λe w'=>e= returned (tuple #[])/\w'=w.setCell a (.int .i32 0):=by have hd:=um;have V:=xV;have I:=rO;have H:=run_call_add (P:=prog) func208 ahE ahE ahE .i32 ahE (y:= -1) (s:=0) hc h (by simp[go_sem];rfl);have O:=run_convert_to_unsafe (P:=prog) (src:=381) (dst:=375) Tryz.underlying381 Tryz.underlying375 ahE hc;go_enter func199,ntmps199;go_wp2;first|(go_end0;exact⟨rfl,rfl⟩)|exact bodyPost_ret (results_none rfl _ _ _) rfl ⟨rfl,rfl⟩|((simp only[Exit.inBlock,Exit.then]);exact bodyPost_ret (results_none rfl _ _ _) rfl ⟨rfl,rfl⟩)
def m8(a:Addr)(u:FrameMode)(w:World)(hc:w.cell? a=some (.int .i32 1))(H:w.frozen? a=false):CallsD prog 193 #[.pointer (some a)] u w λe I w'=>I=u/\(e= returned (tuple #[])/\w'=w.setCell a (.int .i32 0)):=by have h:=qh (rh a w hc H);go_enter_d func193,ntmps193;go_wp2_with fail;refine LT h.o ?_;go_wp2;first|(go_end0;exact⟨rfl,rfl⟩)|exact bodyPost_ret (results_none rfl _ _ _) rfl ⟨rfl,rfl⟩|((simp only[Exit.inBlock,Exit.then]);exact bodyPost_ret (results_none rfl _ _ _) rfl ⟨rfl,rfl⟩)
def pI(a:Addr)(x:Value)(u:FrameMode)(w:World)(hc:w.cell? a=some x)(V:w.frozen? a=false):CallsD prog 194 #[.pointer (some a),bool true] u w λe I w'=>I=u/\(e= returned (tuple #[])/\w'=w.drew.setCell a (.int .u32 1)):=by
  have H:w.drew.cell? a=some x:=by go_simp
  have h:w.drew.frozen? a=false:=by go_simp
  have O:=run_call_store (P:=prog) func200 ahE ahE ahE ahE (k:= .u32) (y:=1) H h;go_enter_d func194,ntmps194;go_wp2;go_region_calls;all_goals (go_end0;exact⟨rfl,rfl⟩)
def mj(a:Addr)(n:Int)(w:World)(hc:w.cell? a=some (.int .u32 n)):E 183 #[.pointer (some a)] w λe w'=>e= returned (bool (n !=0))/\w=w':=by have h:=run_call_load (P:=prog) func191 ahE ahE ahE .u32 ahE hc;go_enter func183,ntmps183;exact aaa
end
section
open Go.RowKit
def FH(w:World)(b o:Nat)(x y:Int)(hc:Z w b o (J x))(h:w.frozen? ⟨b,o,none⟩=false):E 188 #[pointer (some ⟨b,o,none⟩),J y] w λe w'=>e= returned (tuple #[])/\w'=w.setCell ⟨b,o,none⟩ (J y):=by have H:=run_call_store (P:=prog) func195 ahE ahE ahE ahE (k:= .i64) (y:=y) hc h;go_enter func188,ntmps188;go_wp2;go_end0;exact⟨rfl,rfl⟩
def an{s:Ar}(h:aB w a g s)(x v:Int)(V:s.ops+1<=1000000000000):E 177 #[↑a,J x,J v] w (fk w a g (ae s x v) (tuple #[])):=by
  have H:=qh h;cases I:inR s.W x;. have e:fk w a g (ae s x v) (tuple #[]) (returned (tuple #[])) w:=⟨rfl,by unfold ae;rw[i5 s _ _ _ I,sh s _ _ I];exact h,aa.refl _ _⟩;have HX:=qh I;clear h I;go_enter func177,ntmps177;go_wp2_with fail;refine LT (ks H.o x HX.o) ?_;go_wp2;go_end0;exact e
  . have HX:=qh I;have Og:=aT.1 I;have MV:x.toNat-1<s.W.length:=(by omega);clear h I;go_enter func177,ntmps177;go_wp2_with fail;refine LT (kG H.o x HX.o) ?_;go_wp2_with fail;refine Op (i6 H.o 2 x true HX.o V) λw1 h1=>?_;have hc:=h1.o.1.word (i:=x.toNat-1) (by rw[dN];exact MV);have Y:=h1.o.1.put (x:=x) (by rw[dN];exact HX.o) v;have H1:=qh (And.intro Y h1.o.2);have O:=qh hc;clear Y hc;go_wp2_with fail;refine LT (FH _ _ _ _ _ O.o.1 O.o.2) ?_;go_wp2;go_end0;exact⟨rfl,H1.o.1.1,(ji H1.o.2).trans H1.o.1.2⟩
end
end Go.Proofs.YtglokdbiggbkjaaGreat
