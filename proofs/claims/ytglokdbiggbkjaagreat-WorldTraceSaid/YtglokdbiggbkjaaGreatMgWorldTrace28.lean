/- Joined texts. -/
import Derived.Test.YtglokdbiggbkjaaGreatMgWorldTrace0
import Derived.Test.YtglokdbiggbkjaaGreatMgWorldTrace7
import Derived.Test.YtglokdbiggbkjaaGreatMgWorldTrace27
set_option linter.unusedVariables false
set_option linter.unusedSimpArgs false
set_option linter.defProp false
set_option maxRecDepth 100000
set_option maxHeartbeats 16000000
open Go.Proofs.Tryz
namespace Go.Proofs.YtglokdbiggbkjaaGreat
open Go.IntKind(i64)
open Go.Value(int bool slice agg tuple pointer)
open Go.Ending(returned)
open Go.Obj(cells)
section
open Go Go.RowKit Go.Maps
section
variable{P T:List Int}{M:LkM T.length}{X:WoB M}{w w':World}{st:M.σ}{lo:Nat}
def bI.tab(G:M.Good)(h:bI X w st)(t:aa [X.tb] w w')(h1:M.hi X.b<=X.tb)(I:X.tb<X.wb):bI X w' st:=
 ⟨G.far _ _ _ _ _ _ _ _ h.is t (λx H=>by simp at H;subst H;exact .inl h1),t.blk h.wd ahD,h.nf,⟨h.hw.1,h.hw.2.1,Nat.le_trans h.hw.2.2 t.size⟩⟩
def Gu(G:M.Good)(h:bI X w st)(hc:a5 P T=0)(ht:gU lo w X.tb P T)(OP:M.hi X.b<=lo/\X.tb<X.wb):E 47 #[lkP X.wb] w λe w'=>∃v,e= returned v/\RdL w' v 1 encI (ao P T T.length)/\(∀q,v.ownBlock=some q->w.heap.size<=q)/\bI X w' st/\aa [X.tb] w w':=by
  refine ajC ?_;intro i0 hi Kt Kv hz2 HI;refine akc ?_;intro HM;have HG:=qh G;have OM:=ht.q hc;have OY:=qh (And.intro (Nat.le_trans OP.1 ht.low) OP.2);have H0:=qh (And.intro h OM);have OK:(ao P T T.length).length=T.length:=cZ (Nat.le_refl _);have HX:=qh (λk (hk:k<T.length)=>ai (l:=ao P T T.length) (k:=k) (by rw[OK];exact hk));have OW:=qh (λB gs i hi q x hx=>xL B gs X.tb P T hc i hi q x hx);have Vp:=qh (λgs i hi q x hx=>jZ gs X.tb P T i hi q x hx);have ab:=G.n32;obtain⟨NS,Wd⟩:=LE (ao P T T.length);rw[<-Wd]at HX OW Vp OK ⊢;have QK:=qh OK;obtain⟨n,hn⟩:=LE T.length;have HT:=qh (show E 61 #[lkP X.wb] w λe w'=>e= returned (J n)/\w=w' from by rw[hn];exact pN G h);have HX:=qh (λk (hk:k<n)=>HX.o k (by rw[<-hn];exact hk));have QK:=qh (QK.o.trans hn.symm);have ab:1<=n/\n<=32:=by rw[hn];exact ab
  have ME:=qh hn;clear h ht hi Kt Kv hz2 G OM Wd OK OP hn;unfold lkP at HT ⊢;go_enter func47,ntmps47;go_wp2_with fail;refine ST HT.o λw' U0=>?_;subst w';go_wp2
  go_loopw [3,4,7] (λo _ i wr=>∃k:Nat,i= J k/\k<=n/\bI X wr st/\aa [X.tb] w wr/\
    ((k=0/\o= .slice none 0 0/\gV (λi=>lo<=i/\i<w.heap.size) wr X.tb P T)\/(0<k/\∃m,w.heap.size<=m/\m<=wr.heap.size/\wr.ownsRow m 3 1 o k ((NS.take k).flatMap encI)/\dD (λi=>i<m) wr X.tb P T))) (λ_ _ i _=>n-(intOf i).toNat)
  case atStart=>exact⟨0,rfl,by omega,H0.o.1,aa.refl _ _,.inl ⟨rfl,rfl,H0.o.2⟩⟩
  case round=>
    obtain⟨k,rfl,hk,LG,ht,WZ⟩:=hrel;obtain⟨wo,rfl⟩:∃wo:World,wo=wr:=⟨_,rfl⟩;have KR:=ht.size;have c1:=LG.wd.cell 1;by_cases C':k<n
    . obtain⟨y,hy⟩:=HX.o k C';have HY:=qh (show(NS.take (k+1)).flatMap encI=(NS.take k).flatMap encI++encI y by rw[a9 hy,List.flatMap_append];simp);rcases WZ with⟨rfl,rfl,h0⟩|⟨ad,m,hm,WT,r',hq⟩
      . have HN:=qh (OW.o _ wo 0 (by rw[<-ME.o];exact C') h0 y hy);have H1:=qh (And.intro LG ht);clear h0 LG ht hy;go_wp2_with fail;refine HN.o.mono ?_;rintro en w2 ⟨rfl,hq,t2⟩;obtain⟨m,SK⟩:=LE w2.heap.size;have hm:w.heap.size<=m:=by have:=t2.size;omega
        have O:=qh (show w2.ownsRow m 3 1 (.slice none 0 0) 0 []/\bI X w2 st/\aa [X.tb] w w2/\dD (λi=>i<m) w2 X.tb P T from
          ⟨World.ownsRow_nil _ _ _ _,H1.o.1.tab HG.o t2 OY.o.1 OY.o.2,H1.o.2.trans t2,(dD.lt hq).mono (λi hi=>by rw[SK];exact hi.2)⟩)
        have WT:m<=w2.heap.size:=(by omega);clear hq t2 SK;have al:w2.heap.size<(w2.alloc (cells #[J y] 3)).heap.size:=(by simp);go_wp2_with (at_builtin;refine wpList_append_own _ rfl _ _ 22 rfl m 3 i0 (J 0) 1 8 Tryz.underlying22 HI.o.1 HI.o.2.1 HI.o.2.2.1 HI.o.2.2.2 rfl ahA _ _ _ rfl (O.o.1.alloc _) ⟨w2.heap.size,0,none⟩ 1 1 (encI y) rfl rfl (oq _ _ _ rfl) (iy _) ?c3 ?c4 ?c5 ?_);case c3=>unfold maxLen;omega
        case c4=>omega
        case c5=>simp;omega
        intro v' w3 h3 V _
        have H:=qh (show bI X w3 st/\aa [X.tb] w w3/\w3.ownsRow m 3 1 v' (0+1) ((NS.take (0+1)).flatMap encI)/\dD (λi=>i<m) w3 X.tb P T/\m<=w3.heap.size from by
          rw[HY.o];have I:=(Below.refl w2.heap.size w2).alloc (Nat.le_refl _) (cells #[J y] 3);refine⟨(O.o.2.1.below HG.o I).grown HG.o V (λj hj=>Nat.le_trans (Nat.le_trans HM.o hm) (O.o.1.lt j hj).1),(O.o.2.2.1.trans (aa.of_below I)).grownRow V (λj hj=>Nat.le_trans hm (O.o.1.lt j hj).1),by simpa using h3,?_,by have:=V.size;simp at this;omega⟩;have t:=(aa.of_below (S:=CI _) I).trans (aa.ofRow V);refine dD.turns O.o.2.2.2 t (λi hi C'=>?_);obtain⟨j,hj,rfl⟩:=i9 hi;have:=(O.o.1.lt _ hj).1
          omega)
        clear h3 V;go_wp2;go_roundw;case rel=>exact⟨0+1,by go_num,by omega,H.o.1,H.o.2.1,.inr ⟨by omega,m,hm,H.o.2.2.2.2,H.o.2.2.1,H.o.2.2.2.1⟩⟩
        case measure=>simp[intOf];omega
      . have HN:=qh (Vp.o wo k (by rw[<-ME.o];exact C') hq.f y hy);have H1:=qh (And.intro LG (And.intro ht (And.intro r' hq)));obtain⟨A5,c5,rfl⟩:=bC r';clear hq LG ht r' hy;go_wp2_with fail;refine LT HN.o ?_;obtain⟨w2,rfl⟩:∃w2:World,w2=wo:=⟨_,rfl⟩
        have O:=qh (show w2.ownsRow m 3 1 (.slice A5 k c5) k ((NS.take k).flatMap encI)/\bI X w2 st/\aa [X.tb] w w2/\dD (λi=>i<m) w2 X.tb P T from
          ⟨H1.o.2.2.1,H1.o.1,H1.o.2.1,H1.o.2.2.2⟩)
        have al:w2.heap.size<(w2.alloc (cells #[J y] 3)).heap.size:=(by simp);go_wp2_with (at_builtin;refine wpList_append_own _ rfl _ _ 22 rfl m 3 i0 (J 0) 1 8 Tryz.underlying22 HI.o.1 HI.o.2.1 HI.o.2.2.1 HI.o.2.2.2 rfl ahA _ _ _ rfl (O.o.1.alloc _) ⟨w2.heap.size,0,none⟩ 1 1 (encI y) rfl rfl (oq _ _ _ rfl) (iy _) ?c3 ?c4 ?c5 ?_);case c3=>unfold maxLen;omega
        case c4=>omega
        case c5=>simp;omega
        intro v' w3 h3 V _
        have H:=qh (show bI X w3 st/\aa [X.tb] w w3/\w3.ownsRow m 3 1 v' (k+1) ((NS.take (k+1)).flatMap encI)/\dD (λi=>i<m) w3 X.tb P T/\m<=w3.heap.size from by
          rw[HY.o];have I:=(Below.refl w2.heap.size w2).alloc (Nat.le_refl _) (cells #[J y] 3);refine⟨(O.o.2.1.below HG.o I).grown HG.o V (λj hj=>Nat.le_trans (Nat.le_trans HM.o hm) (O.o.1.lt j hj).1),(O.o.2.2.1.trans (aa.of_below I)).grownRow V (λj hj=>Nat.le_trans hm (O.o.1.lt j hj).1),by simpa using h3,?_,by have:=V.size;simp at this;omega⟩;have t:=(aa.of_below (S:=CI _) I).trans (aa.ofRow V);refine dD.turns O.o.2.2.2 t (λi hi C'=>?_);obtain⟨j,hj,rfl⟩:=i9 hi;have:=(O.o.1.lt _ hj).1
          omega)
        clear h3 V;go_wp2;go_roundw;case rel=>exact⟨k+1,by go_num,by omega,H.o.1,H.o.2.1,.inr ⟨by omega,m,hm,H.o.2.2.2.2,H.o.2.2.1,H.o.2.2.2.1⟩⟩
        case measure=>simp[intOf];omega
    . obtain rfl:k=n:=by omega
      rcases WZ with⟨rfl,rfl,h0⟩|⟨ad,m,hm,WT,r',hq⟩
      . exfalso;omega
      . have H:=qh (And.intro LG (And.intro ht r'));clear LG ht r' hq;go_wp2;go_ret;have Y:=H.o.2.2;rw[<-QK.o,List.take_length]at Y;exact⟨_,rfl,RdL.of_own jP rfl (by rw[QK.o];omega) (by rw[QK.o]at Y ⊢;exact Y),λq hq=>Nat.le_trans hm (H.o.2.2.lt q hq).1,H.o.1,H.o.2.1⟩
end
end
end Go.Proofs.YtglokdbiggbkjaaGreat
