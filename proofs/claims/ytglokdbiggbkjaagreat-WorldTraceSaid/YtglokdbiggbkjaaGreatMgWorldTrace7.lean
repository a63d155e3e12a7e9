/- Joined texts. -/
import Derived.Deep.RegionLaw
import Derived.Deep.AppendLies
import Derived.Deep.DeepCutAuto
import Derived.Test.YtglokdbiggbkjaaGreatMgWorldTrace0
import Derived.Test.YtglokdbiggbkjaaGreatMgWorldTrace2
import Derived.Test.YtglokdbiggbkjaaGreatMgWorldTrace3
import Derived.Test.YtglokdbiggbkjaaGreatMgWorldTrace4
import Derived.Test.YtglokdbiggbkjaaGreatMgWorldTrace5
import Derived.Test.YtglokdbiggbkjaaGreatMgWorldTrace6
set_option linter.unusedVariables false
set_option linter.unusedSimpArgs false
set_option linter.defProp false
set_option maxRecDepth 100000
set_option maxHeartbeats 16000000
open Go.Proofs.Tryz
namespace Go.Proofs.YtglokdbiggbkjaaGreat
open Go.IntKind(i64)
open Go.Value(int bool slice agg tuple pointer)
open Go.Ending(returned)
open Go.Obj(cells)
variable{x:Int}{w0 w w' w1 w2:World}{b i n' k nd sz cP cT n:Nat}{v' vL vN vS v vU vM:Value}{xs':List Value}{P T:List Int}{H I:Option Addr}{B:Nat->Prop}
section
open Go.RowKit
variable{α:Type}
def fg(vP vT:Value)(d m:Int)(vU vN vS vM:Value):Array Value:=#[vP,vT,.int .u32 d,.int .i32 m,.int .u32 0,vU,vN,vS,vM]
def Kj(v:Value)(l:List Int):eT:=⟨3,v,l.length,l.flatMap encI⟩
def fe(us:List Value)(v:Value):eT:=⟨22,v,us.length,us⟩
structure jG(w0 w:World)(b:Nat)(vP vT:Value)(P T:List Int)(vL vU vN vS vM:Value)(us:List eT)(k:Nat):Prop where
 blk:Blk w b 213 (fg vP vT 0 1 vU vN vS vM)
 rows:gi w w0.heap.size b ([Kj vL (ac P),Kj vM (aH P T k),Kj vN (ao P T k),Kj vS (a6 T k),fe (us.map (·.v)) vU]++us)
 len:us.length=k
 up:∀(i:Nat) (x:Int) (r:eT),T[i]? =some x->us[i]? =some r->r=Kj r.v (upL P x)
 bel:aa [b] w0 w
def vH(P T:List Int):(aH P T 0).flatMap encI=(List.range (ac P).length).map λ_=>Value.int .i64 0:=by
 rw[iQ];unfold aH;rw[List.map_map];refine List.ext_getElem? λi=>?_;simp only[List.getElem?_map,Function.comp_def];by_cases h:i<(ac P).length;.simp[h]
 .simp[h]
def gi.single(w:World)(B b:Nat)(r:eT)(h:w.ownsRow B r.e 1 r.v r.n r.xs)(I:r.v.ownBlock≠some b):gi w B b [r]:=by
 refine⟨by simpa using h,λi j x y hi H O=>?_,by simpa using I⟩;have V:i=0:=by have:=(List.getElem?_eq_some_iff.1 hi).1;simpa using this
 have Y:j=0:=by have:=(List.getElem?_eq_some_iff.1 H).1;simpa using this
 omega
structure eK(w0 w:World)(b:Nat)(cs:Array Value)(l:List eT):Prop where
 blk:Blk w b 213 cs
 rows:gi w w0.heap.size b l
 bel:aa [b] w0 w
section
variable{cs:Array Value}{l:List eT}
def eK.below(h:eK w0 w b cs l)(k:Below w.heap.size w w'):eK w0 w' b cs l:=⟨h.blk.below k h.blk.lt,h.rows.below k,h.bel.trans (aa.of_below k)⟩
def mU{row:Option Nat}(h:aa [b] w0 w)(k:w.grownBy w' row)(V:∀g,row=some g->w0.heap.size<=g):aa [b] w0 w':=by
 cases row with
 |none=>exact h.trans ⟨k.os,k.tape,k.output,k.size,λi hi _=>k.block i hi ahz⟩
 |some g=>
  have h1:aa [b,g] w0 w':=(h.mono ahz).trans ((aa.grown k).mono ahz)
  exact h1.fresh (by
   intro i hi;simp only[List.mem_cons,List.not_mem_nil,or_false]at hi;rcases hi with rfl|rfl
   .exact .inl ahz
   .exact .inr (V _ rfl))
def eK.app(h:eK w0 w b cs l){r:eT}(hi:l[i]? =some r)(o:Obj)(hg:(w.alloc o).grownBy w' r.v.ownBlock)(Y:w'.ownsRow w0.heap.size r.e 1 v' n' xs')(Oh:v'.ownBlock=r.v.ownBlock\/v'.ownBlock=some (w.heap.size+1))(c:Nat):eK w0 (w'.setCell ⟨b,c,none⟩ v') b (cs.setIfInBounds c v') (l.set i ⟨r.e,v',n',xs'⟩):=by
  have O:Below w.heap.size w (w.alloc o):=(Below.refl _ _).alloc (Nat.le_refl _) o;have h1:=h.below O;have V:(w.alloc o).heap.size=w.heap.size+1:=by simp
  have I:aa [b] w' (w'.setCell ⟨b,c,none⟩ v'):=aa.setCell (aa.refl [b] w') (.inl ahz) _;have H:=List.mem_of_getElem? hi;refine⟨?_,(h1.rows.app hi h1.blk.lt hg Y (Oh.imp id λe=>⟨_,Nat.le_of_eq V,e⟩)).turn I,(mU h1.bel hg (λg e=>((h1.rows.own r H).lt g e).1)).trans I⟩;exact(h1.blk.grown hg (λe=>h.rows.nb r H e.symm)).set_ c v'
def eK.put(h:eK w0 w b cs l){r:eT}(hi:l[i]? =some r){g j:Nat}(hg:r.v.ownBlock=some g)(u:Value)(Y:(w.setCell ⟨g,j,none⟩ u).ownsRow w0.heap.size r.e 1 r.v r.n xs'):eK w0 (w.setCell ⟨g,j,none⟩ u) b cs (l.set i ⟨r.e,r.v,r.n,xs'⟩):=by
  have H:w.grownBy (w.setCell ⟨g,j,none⟩ u) r.v.ownBlock:=by rw[hg];exact yP (vu _ _) j u
  have I:=List.mem_of_getElem? hi;refine⟨h.blk.grown H (λe=>h.rows.nb r I e.symm),h.rows.app hi h.blk.lt H Y (.inl rfl),mU h.bel H (λg e=>((h.rows.own r I).lt g e).1)⟩
def eK.grow(h:eK w0 w b cs l){r:eT}(hi:l[i]? =some r)(o:Obj)(hg:(w.alloc o).grownBy w' r.v.ownBlock)(Y:w'.ownsRow w0.heap.size r.e 1 v' n' xs')(V:v'.ownBlock=r.v.ownBlock\/v'.ownBlock=some (w.heap.size+1)):eK w0 w' b cs (l.set i ⟨r.e,v',n',xs'⟩):=by
  have I:Below w.heap.size w (w.alloc o):=(Below.refl _ _).alloc (Nat.le_refl _) o;have h1:=h.below I;have O:(w.alloc o).heap.size=w.heap.size+1:=by simp
  have H:=List.mem_of_getElem? hi;exact⟨h1.blk.grown hg (λe=>h.rows.nb r H e.symm),h1.rows.app hi h1.blk.lt hg Y (V.imp id λe=>⟨_,Nat.le_of_eq O,e⟩),mU h1.bel hg (λg e=>((h1.rows.own r H).lt g e).1)⟩
def eK.push(h:eK w0 w b cs l)(e:TypeId):eK w0 w b cs (l++[⟨e,.slice none 0 0,0,[]⟩]):=⟨h.blk,h.rows.push e,h.bel⟩
end
def jG.g{V Y:Value}{O I:Value}{H:List eT}(h:jG w0 w b V Y P T vL O vN vS I H k):eK w0 w b (fg V Y 0 1 O vN vS I) ([Kj vL (ac P),Kj I (aH P T k),Kj vN (ao P T k),Kj vS (a6 T k),fe (H.map (·.v)) O]++H):=⟨h.blk,h.rows,h.bel⟩
def cZ(h:k<=T.length):(ao P T k).length=k:=by unfold ao;simp;omega
def gu(T:List Int)(k:Nat):(a6 T k).length=k:=by simp[a6]
def cY(P T:List Int)(k:Nat):(aH P T k).length=(ac P).length:=by simp[aH]
def vX(h:T[k]? =some x):ao P T (k+1)=ao P T k++[fM (ac P) x]:=by unfold ao;rw[a9 h,List.map_append];rfl
def nK{l:List Int}(hm:x∈l)(h:fM l x=nd):l[nd]? =some x:=by
 unfold fM at h;rw[if_pos hm]at h;have e:l.idxOf x=nd:=by omega
 have H:=List.idxOf_lt_length_of_mem hm;rw[<-e,List.getElem?_eq_getElem H,List.getElem_idxOf H]
def qz(h:(ac P)[nd]? =some x):((aH P T k).flatMap encI)[nd]? =some (J (((T.take k).count x:Nat):Int)):=by rw[iQ];unfold aH;simp[h]
theorem Tryz.infoSl:(prog.info? 22).map (λi=>(i.zero,i.size,i.bytes))=some (some (.slice none 0 0),1,24):=by kernel_rfl
def tC(l:List α)(a:α)(i:Nat)(h:i=l.length):(l++[a])[i]? =some a:=by subst h;simp
def BP(l:List α)(a c:α)(i:Nat)(h:i=l.length):(l++[a]).set i c=l++[c]:=by subst h;simp
def C5(P:List Int):∀(f:Nat) (v:Int),(upF P f v).length<=f
 |0,_=>Nat.le_refl _
 |f+1,v=>by
  unfold upF;split;.have:=C5 P f (P.getD v.toNat 0);rw[List.length_cons];omega
  .simp
def sf(P:List Int)(v:Int):(upL P v).length<=P.length:=C5 P _ _
def ry(P:List Int):(ac P).Nodup:=by unfold ac am;exact List.Pairwise.filter _ (List.Pairwise.map Int.ofNat (λa b h e=>h (Int.ofNat.inj e)) List.nodup_range)
def vG(h:T[k]? =some x)(H:(ac P)[nd]? =some x):((aH P T k).flatMap encI).set nd (J ((((T.take k).count x:Nat):Int)+1))=(aH P T (k+1)).flatMap encI:=by
  rw[iQ,iQ];unfold aH;rw[List.map_map,List.map_map];refine List.ext_getElem? λj=>?_;rw[List.getElem?_set];have O:=(List.getElem?_eq_some_iff.1 H).1;by_cases e:nd=j;. subst e;rw[if_pos rfl,List.length_map,if_pos O,List.getElem?_map,H,a9 h];simp
  . rw[if_neg e,List.getElem?_map,List.getElem?_map,a9 h];cases Y:(ac P)[j]? with
    | none=>rfl
    | some y=>have I:y≠x:=(by rintro rfl;obtain⟨a1,V⟩:=List.getElem?_eq_some_iff.1 H;obtain⟨b1,b2⟩:=List.getElem?_eq_some_iff.1 Y;exact e ((List.getElem_inj (ry P)).1 (V.trans b2.symm)));simp[List.count_append,List.count_singleton,Ne.symm I]
def wF(h:T[k]? =some x):a6 T (k+1)=a6 T k++[(((T.take k).count x:Nat):Int)]:=by unfold a6;rw[List.range_succ,List.map_append];show _++[cQ T k]=_;unfold cQ;rw[bp h]
def td(w:World)(b:Nat)(AP AT:Option Addr)(cP cT:Nat)(P T:List Int)(hc:a5 P T=0)(hB:Blk w b 213 (fg (.slice AP P.length cP) (.slice AT T.length cT) 0 1 rM rM rM rM))(hP:RdL w (.slice AP P.length cP) 1 encI P)(hT:RdL w (.slice AT T.length cT) 1 encI T)(nP:∀g,(Value.slice AP P.length cP).ownBlock=some g->g≠b)(nT:∀g,(Value.slice AT T.length cT).ownBlock=some g->g≠b):E 170 #[↑b] w λe w'=>e= returned (tuple #[])/\∃vL O vN vS vM H,jG w w' b (.slice AP P.length cP) (.slice AT T.length cT) P T vL O vN vS vM H T.length:=by
  refine ajC ?_;intro i0 hi Kt Kv hz2 HI;clear hi Kt Kv hz2;obtain⟨j0,hi,Kt,Kv,hz2⟩:=info_parts Tryz.infoSl;have HJ:=qh (And.intro hi (And.intro Kt (And.intro Kv hz2)));clear hi Kt Kv hz2;obtain⟨hm,OQ,Mc,Xf⟩:=aR hc;have KY:=bj hm;have LC:=a8 P P.length;have Oo:(ac P).length<=32:=by show(am P P.length).length<=_;omega
  have OJ:tH P T=ac P:=by unfold tH;rw[if_pos hc]
  have XY:=qh hB;have Ob:=qh (And.intro hP hT);have LL:=qh (And.intro nP nT);have Ll:=qh (And.intro OQ Xf);have Lf:=hB.lt;have f0:=hB.cell 0;have f1:=hB.cell 1;have VH:=qh (uE w _ _ P T hP hT);rw[OJ]at VH;simp only[fg]at f0 f1;clear hc hB hP hT nP nT hm OQ Mc Xf LC OJ;go_enter func170,ntmps170;go_wp2_with fail;refine VH.o.mono ?_;rintro en w1 ⟨v2,rfl,o2,b2⟩;obtain⟨A2,c2,rfl⟩:=bC o2;have B2:=qh (XY.o.below b2 Lf);have Ko:=b2.size;have c8:=B2.o.cell 8;have z8:=B2.o.free 8;simp only[fg,rM]at c8;have A0:=qh (gi.single w1 w.heap.size b (Kj (.slice A2 (ac P).length c2) (ac P)) o2 (λe=>by have:=(o2.lt _ e).1;omega));have K2:=qh b2;clear o2 b2 f0 f1;go_wp2_with (refine wpList_make_full _ rfl (.tmp 15) (.tmp 15) 22 rfl w1.heap.size 3 i0 (J 0) 1 Tryz.underlying22 HI.o.1 HI.o.2.1 HI.o.2.2.1 .i64 .i64 (ac P).length (ac P).length (ac P).length rfl rfl rfl rfl ?b2 ?b3 (Nat.le_refl _) ?_);case b2=>rw[HI.o.2.2.2];omega
  case b3=>unfold maxLen;omega
  intro w3 r' hg;have Pn:w3.ownsRow w1.heap.size 3 1 (slice (some ⟨w1.heap.size,0,none⟩) (ac P).length (ac P).length) (ac P).length ((aH P T 0).flatMap encI):=by rw[kV,<-vH P T]at r';exact r'
  have MH:Below w1.heap.size w1 w3:=(Below.refl w1.heap.size w1).grown hg (Nat.le_refl _) (λj hj=>by cases hj);have B3:=qh (B2.o.below MH B2.o.lt);have d8:=B3.o.cell 8;have y8:=B3.o.free 8;have d1:=B3.o.cell 1;simp only[fg,rM]at d8 d1;have HO:=qh (And.intro Pn (And.intro hg MH));clear r' Pn hg MH c8 z8
  have LX:jG w (w3.setCell ⟨b,8,none⟩ (slice (some ⟨w1.heap.size,0,none⟩) (ac P).length (ac P).length)) b (.slice AP P.length cP) (.slice AT T.length cT) P T (.slice A2 (ac P).length c2) rM rM rM (slice (some ⟨w1.heap.size,0,none⟩) (ac P).length (ac P).length) [] 0:=by
    have Zl:b<w1.heap.size:=by omega
    have a1:=(A0.o.push 3).app (i:=1) (w':=w3) (v':= slice (some ⟨w1.heap.size,0,none⟩) (ac P).length (ac P).length) (n':=(aH P T 0).length) (xs':=(aH P T 0).flatMap encI) rfl Zl HO.o.2.1 (by
      have h:=dg HO.o.1 K2.o.size;have e:(aH P T 0).length=(ac P).length:=by simp[aH]
      rw[e];exact h) (.inr ⟨_,Nat.le_refl _,rfl⟩)
    have a2:=a1.turn (w':=w3.setCell ⟨b,8,none⟩ (slice (some ⟨w1.heap.size,0,none⟩) (ac P).length (ac P).length)) (aa.setCell (aa.refl [b] w3) (.inl ahz) _);refine⟨B3.o.set_ 8 _,((a2.push 3).push 3).push 22,rfl,λi x r _ h=>by simp at h,?_⟩;exact((aa.of_below K2.o).trans (aa.of_below HO.o.2.2)).trans (aa.setCell (aa.refl [b] w3) (.inl ahz) _)
  have X2:=qh LX;clear LX;go_wp2_with fail;go_loopw [25] (λi wr=>∃(k:Nat) (O vN vS vM:Value) (H:List eT),i= J k/\k<=T.length/\jG w wr b (.slice AP P.length cP) (.slice AT T.length cT) P T (.slice A2 (ac P).length c2) O vN vS vM H k) (λi _=>T.length-(intOf i).toNat);case atStart=>exact⟨0,_,_,_,_,[],rfl,by omega,X2.o⟩
  case round=>
    obtain⟨k,O,vN,vS,vM,H,rfl,hk,hF⟩:=hrel;obtain⟨wo,rfl⟩:∃wo:World,wo=wr:=⟨_,rfl⟩;have HF:=qh hF;clear hF d1 d8;by_cases C':k<T.length
    . obtain⟨x,hx⟩:=ai C';have S6:=jA Ll.o.2 hx;have M0:=gG (P:=P) (k:=P.length) S6;obtain⟨m,rfl⟩:=Int.eq_ofNat_of_zero_le M0.2.1;have bW:m<P.length:=(by have:=M0.2.2;omega);have RT:=Ob.o.2.turns HF.o.bel (λg hg hm=>by simp at hm;exact LL.o.2 g hg hm);obtain⟨bT,oT,rfl,bA,Wv⟩:=fZ RT ahy;have q0:=Wv k _ hx;have RL:=dP (HF.o.rows.own (Kj (.slice A2 (ac P).length c2) (ac P)) ahz) ahy;have Sc:=qh (mF wo _ (ac P) m RL);obtain⟨nd,ab⟩:∃nd:Nat,fM (ac P) m=nd:=by have h0:=(eV (ac P) (m:Int)).1.2 S6;exact⟨(fM (ac P) m).toNat,by omega⟩
      have bw:nd<(ac P).length:=(by have:=(eV (ac P) (m:Int)).2.1;omega);rw[ab]at Sc;have HX:=qh (And.intro hx (And.intro ab (nK S6 ab)));have SR:wo.ownsRow w.heap.size 3 1 vN (ao P T k).length ((ao P T k).flatMap encI):=HF.o.rows.own (Kj vN (ao P T k)) ahz;rw[cZ hk]at SR;obtain⟨AN,cN,rfl⟩:=bC SR;have e6:=HF.o.blk.cell 6;have z6:=HF.o.blk.free 6;simp only[fg]at e6;clear hx S6 M0 RT Wv RL ab
      go_wp2_with (first
        | (go_at_call 119;refine Sc.o.mono ?_;rintro e w' ⟨rfl,rfl⟩)
        | (at_builtin;go_loud (refine wpList_append_own_at _ rfl _ _ 22 rfl w.heap.size 3 i0 (J 0) 1 8 Tryz.underlying22 HI.o.1 HI.o.2.1 HI.o.2.2.1 HI.o.2.2.2 rfl ahA _ _ _ rfl (SR.alloc _) ⟨wo.heap.size,0,none⟩ 1 1 (encI nd) rfl rfl (cell_one_new _ _ _) (iy _) ?c3 ?c4 ?c5 ?_)))
      case c3=>unfold maxLen;omega
      case c4=>omega
      case c5=>simp;have:=HF.o.bel.size;omega
      intro v' w4 NE NB PQ Oh;obtain⟨V,Y,rfl⟩:=bC NE;have O4:=(HF.o.blk.alloc (cells #[J nd] 3)).grown NB (λe=>HF.o.rows.nb (Kj (.slice AN k cN) (ao P T k)) ahz e.symm);have VW:=O4.cell 6;have ad:=O4.free 6;simp only[fg]at VW;obtain⟨w5,Lt⟩:=LE (w4.setCell ⟨b,6,none⟩ (.slice V (k+1) Y));have Ue:eK w w5 b (fg (.slice AP P.length cP) (slice (some ⟨bT,oT,none⟩) T.length cT) 0 1 O (.slice V (k+1) Y) vS vM) ([Kj (.slice A2 (ac P).length c2) (ac P),Kj vM (aH P T k),⟨3,.slice V (k+1) Y,k+1,(ao P T k).flatMap encI++encI nd⟩,Kj vS (a6 T k),fe (H.map (·.v)) O]++H):=by rw[Lt];exact HF.o.g.app (i:=2) (r:=Kj (.slice AN k cN) (ao P T k)) rfl (cells #[J nd] 3) NB NE Oh 6
      rw[show(⟨3,.slice V (k+1) Y,k+1,(ao P T k).flatMap encI++encI nd⟩:eT)=Kj (.slice V (k+1) Y) (ao P T (k+1))from by
        unfold Kj
        rw[cZ ahy,vX HX.o.1,HX.o.2.1,iR]]at Ue
      have Mr:=qh Ue;clear NE NB PQ Oh O4 Ue SR e6 z6 q0;go_upto_region 7 with fail;rw[<-Lt];clear Lt VW ad;have SS:w5.ownsRow w.heap.size 3 1 vS (a6 T k).length ((a6 T k).flatMap encI):=Mr.o.rows.own (Kj vS (a6 T k)) ahz;rw[gu]at SS;obtain⟨AS,cS,rfl⟩:=bC SS;have NX:w5.ownsRow w.heap.size 3 1 vM (aH P T k).length ((aH P T k).flatMap encI):=Mr.o.rows.own (Kj vM (aH P T k)) ahz;rw[cY]at NX;obtain⟨I,cM,rfl,ax,ba⟩:=gO NX ahy;have m0:=NX.cellAt nd ahy;rw[qz HX.o.2.2]at m0;have Vo:=qh (Mr.o.rows.nb (Kj (.slice AS k cS) (a6 T k)) ahz);obtain⟨ct,Nz⟩:∃ct:Nat,ct=(T.take k).count (m:Int):=⟨_,rfl⟩;rw[<-Nz]at m0;have Mq:=qh Nz;have c7:=Mr.o.blk.cell 7;have c8:=Mr.o.blk.cell 8;simp only[fg]at c7 c8;have QM:=qh (And.intro SS NX);have NQ:b<w5.heap.size:=Mr.o.blk.lt;clear Nz SS NX;go_cut [5] (λs5 wx=>s5= J (nd:Nat)/\∃Pv,eK w wx b (fg (.slice AP P.length cP) (slice (some ⟨bT,oT,none⟩) T.length cT) 0 1 O (.slice V (k+1) Y) Pv (slice (some ⟨I,0,none⟩) (ac P).length cM)) ([Kj (.slice A2 (ac P).length c2) (ac P),Kj (slice (some ⟨I,0,none⟩) (ac P).length cM) (aH P T k),Kj (.slice V (k+1) Y) (ao P T (k+1)),Kj Pv (a6 T (k+1)),fe (H.map (·.v)) O]++H))
      case first=>
        go_region_law ((go_loud ((refine step_append_lies _ rfl _ _ 22 rfl w.heap.size 3 i0 (J 0) 1 8 Tryz.underlying22 HI.o.1 HI.o.2.1 HI.o.2.2.1 HI.o.2.2.2 rfl ahA _ _ _ rfl (show World.ownsRow (w5.alloc (cells #[J ct] 3)).drew w.heap.size 3 1 (.slice AS k cS) k ((a6 T k).flatMap encI)from QM.o.1.alloc _) ⟨w5.heap.size,0,none⟩ 1 1 (encI ct) rfl rfl (λj u hj=>cell_one_new w5 (J ct) 3 j u hj) (iy _) ahA (by unfold maxLen;omega) ahy (by simp;have:=Mr.o.bel.size;omega) _ rfl ?_));intro g6 QW w6 h6 Us Rv bc;have VT:=(Mr.o.blk.alloc (cells #[J ct] 3)).drew.grown Us (λe=>Vo.o e.symm);have YP:=VT.cell 7;have cp:=VT.free 7;simp only[fg]at YP))
        all_goals
          have Q7:=(Mr.o.below (w':=w5.drew) (Below.refl _ _).drew).app (i:=3) (r:=Kj (.slice AS k cS) (a6 T k)) rfl (cells #[J ct] 3) Us h6 (Rv.imp (λe=>e.symm) (λe=>by rw[e];simp[Value.ownBlock])) 7;have M2:=qh Q7;clear Q7 h6 Us Rv;go_wp2_with fail;go_meet
          case rel=>
            have h:eK w ((w6.setCell ⟨b,7,none⟩ (slice (some ⟨g6,0,none⟩) (k+1) QW))) b (fg (.slice AP P.length cP) (slice (some ⟨bT,oT,none⟩) T.length cT) 0 1 O (.slice V (k+1) Y) (slice (some ⟨g6,0,none⟩) (k+1) QW) (slice (some ⟨I,0,none⟩) (ac P).length cM)) ([Kj (.slice A2 (ac P).length c2) (ac P),Kj (slice (some ⟨I,0,none⟩) (ac P).length cM) (aH P T k),Kj (.slice V (k+1) Y) (ao P T (k+1)),⟨3,slice (some ⟨g6,0,none⟩) (k+1) QW,k+1,(a6 T k).flatMap encI++encI ct⟩,fe (H.map (·.v)) O]++H):=M2.o
            rw[show(⟨3,slice (some ⟨g6,0,none⟩) (k+1) QW,k+1,(a6 T k).flatMap encI++encI ct⟩:eT)=Kj (slice (some ⟨g6,0,none⟩) (k+1) QW) (a6 T (k+1))from by
              unfold Kj
              rw[gu,wF HX.o.1,<-Mq.o,iR]]at h
            exact⟨rfl,_,h⟩
      case rest=>
        obtain⟨rfl,Pv,Q7⟩:=hcut;have M2:=qh Q7;clear Q7 c7 c8 m0 Vo NQ;have NX:wc.ownsRow w.heap.size 3 1 (slice (some ⟨I,0,none⟩) (ac P).length cM) (aH P T k).length ((aH P T k).flatMap encI):=M2.o.rows.own (Kj (slice (some ⟨I,0,none⟩) (ac P).length cM) (aH P T k)) ahz;rw[cY]at NX;have m0:=NX.cellAt nd ahy;rw[qz HX.o.2.2,<-Mq.o]at m0;have y0:=NX.frozenAt nd;have Kp:=NX.stored nd (J ((ct:Int)+1));have c8:=M2.o.blk.cell 8;simp only[fg]at c8;have al:ct<=32:=(by rw[Mq.o];have h1:=List.count_le_length (l:=T.take k) (a:=(m:Int));have h2:=List.length_take_le k T;omega);have Ly:=qh Kp;clear Kp NX;go_upto_region 9 with fail
        have PK:eK w (wc.setCell ⟨I,nd,none⟩ (J ((ct:Int)+1))) b (fg (.slice AP P.length cP) (slice (some ⟨bT,oT,none⟩) T.length cT) 0 1 O (.slice V (k+1) Y) Pv (slice (some ⟨I,0,none⟩) (ac P).length cM)) ([Kj (.slice A2 (ac P).length c2) (ac P),Kj (slice (some ⟨I,0,none⟩) (ac P).length cM) (aH P T (k+1)),Kj (.slice V (k+1) Y) (ao P T (k+1)),Kj Pv (a6 T (k+1)),fe (H.map (·.v)) O]++H):=by
          have h:=M2.o.put (i:=1) (r:=Kj (slice (some ⟨I,0,none⟩) (ac P).length cM) (aH P T k)) rfl (g:=I) (j:=nd) rfl (J ((ct:Int)+1)) (xs':=(aH P T (k+1)).flatMap encI) (by
            have h1:=Ly.o.1;rw[Mq.o,vG HX.o.1 HX.o.2.2,<-Mq.o]at h1;show World.ownsRow _ _ _ 1 _ (aH P T k).length _;rw[cY]
            exact h1)
          have e:(⟨3,slice (some ⟨I,0,none⟩) (ac P).length cM,(aH P T k).length,(aH P T (k+1)).flatMap encI⟩:eT)=Kj (slice (some ⟨I,0,none⟩) (ac P).length cM) (aH P T (k+1)):=(by unfold Kj;rw[cY,cY]);rw[<-e];exact h
        have Vk:=qh (PK.push 3);clear PK m0 y0 c8;obtain⟨w7,Xl⟩:=LE (wc.setCell ⟨I,nd,none⟩ (J ((ct:Int)+1)));rw[<-Xl]at Vk ⊢;clear Xl;go_wp2_with fail;go_loopw [6,7] (λs6 s7 wr=>∃(z:Int) (dn:List Int),s7= J z/\z<P.length/\upL P m=dn++upL P z/\(dn.length:Int)+z<=m/\eK w wr b (fg (.slice AP P.length cP) (slice (some ⟨bT,oT,none⟩) T.length cT) 0 1 O (.slice V (k+1) Y) Pv (slice (some ⟨I,0,none⟩) (ac P).length cM)) (([Kj (.slice A2 (ac P).length c2) (ac P),Kj (slice (some ⟨I,0,none⟩) (ac P).length cM) (aH P T (k+1)),Kj (.slice V (k+1) Y) (ao P T (k+1)),Kj Pv (a6 T (k+1)),fe (H.map (·.v)) O]++H)++[Kj s6 dn])) (λ_ s7 _=>(intOf s7+1).toNat);case atStart=>exact⟨m,[],rfl,by omega,rfl,by simp,Vk.o⟩
        case round=>
          obtain⟨z,dn,rfl,hz,My,OI,hG⟩:=hrel;obtain⟨wi,rfl⟩:∃wi:World,wi=wr:=⟨_,rfl⟩;have OV:=qh hG;have bF:dn.length<=P.length:=(by have h1:=congrArg List.length My;rw[List.length_append]at h1;have h2:(upL P m).length<=P.length:=sf P m;omega);have RE:wi.ownsRow w.heap.size 3 1 u6 dn.length (dn.flatMap encI):=hG.rows.own (Kj u6 dn) ahz;have VL:=qh My;clear hG My;by_cases h0:0<=z
          . obtain⟨n,rfl⟩:=Int.eq_ofNat_of_zero_le h0;have hn:n<P.length:=(by omega);obtain⟨q,hq⟩:=ai hn;have SZ:=gJ Ll.o.1 hq;have HQ:=qh (gx Ll.o.1 hq);have Yk:=qh hq;obtain⟨A6,c6,rfl⟩:=bC RE;clear hq;go_wp2_with (at_builtin;go_loud (refine wpList_append_own_at _ rfl _ _ 22 rfl w.heap.size 3 i0 (J 0) 1 8 Tryz.underlying22 HI.o.1 HI.o.2.1 HI.o.2.2.1 HI.o.2.2.2 rfl ahA _ _ _ rfl (RE.alloc _) ⟨wi.heap.size,0,none⟩ 1 1 (encI n) rfl rfl (cell_one_new _ _ _) (iy _) ?d3 ?d4 ?d5 ?_));case d3=>unfold maxLen;omega
            case d4=>omega
            case d5=>simp;have:=OV.o.bel.size;omega
            intro v8 w8 W3 WF ZZ Wp;have Q8:=OV.o.grow (i:=5+H.length) (r:=Kj (.slice A6 dn.length c6) dn) (tC _ _ _ ahD) (cells #[J n] 3) WF W3 Wp;rw[BP _ _ _ _ ahD]at Q8;have M4:=qh Q8;have RP:=Ob.o.1.turns Q8.bel (λg hg hm=>by simp at hm;exact LL.o.1 g hg hm);have x0:=Q8.blk.cell 0;simp only[fg]at x0;obtain⟨bP,oP,Y5,_,Wu⟩:=fZ RP ahy;have x1:=Wu n q Yk.o;rw[show(⟨(Kj (.slice A6 dn.length c6) dn).e,v8,dn.length+1,dn.flatMap encI++encI n⟩:eT)=Kj v8 (dn++[(n:Int)])from by unfold Kj;rw[iR,List.length_append];rfl]at M4;clear W3 WF ZZ Wp Q8 RP Wu RE;subst Y5;go_wp2;go_roundw;case rel=>exact⟨q,dn++[(n:Int)],rfl,by omega,by rw[VL.o,HQ.o];simp,by simp;omega,M4.o⟩
            case measure=>simp[intOf];omega
          . have X0:=qh (show dn=upL P m from by have h:=VL.o;rw[ya (P:=P) (p:=z) ahy,List.append_nil]at h;exact h.symm);obtain⟨A6,c6,rfl⟩:=bC RE;have Pr:H.length=k:=HF.o.len;have SU:wi.ownsRow w.heap.size 22 1 O (H.map (·.v)).length (H.map (·.v)):=(by have h:=OV.o.rows.own (fe (H.map fun(r:eT)=>r.v) O) ahz;exact h);rw[List.length_map,Pr]at SU;obtain⟨AV,cV,rfl⟩:=bC SU;have x5:=OV.o.blk.cell 5;simp only[fg]at x5;have QQ:=qh Pr;clear RE Pr;go_wp2_with (at_builtin;go_loud (refine wpList_append_own_at _ rfl _ _ 211 rfl w.heap.size 22 j0 (.slice none 0 0) 1 24 Tryz.underlying211 HJ.o.1 HJ.o.2.1 HJ.o.2.2.1 HJ.o.2.2.2 rfl ahA _ _ _ rfl (SU.alloc _) ⟨wi.heap.size,0,none⟩ 1 1 [.slice A6 dn.length c6] rfl rfl (cell_one_new _ _ _) ah3 ?e3 ?e4 ?e5 ?_));case e3=>unfold maxLen;omega
            case e4=>omega
            case e5=>have h9:=OV.o.bel.size;first|omega|(simp;omega)|exact Nat.le_trans h9 ahz
            intro v9 w9 UG Uv Z0 Wq;obtain⟨A9,c9,rfl⟩:=bC UG;have Mt:=(OV.o.blk.alloc (cells #[.slice A6 dn.length c6] 22)).grown Uv (λe=>OV.o.rows.nb (fe (H.map fun(r:eT)=>r.v) (.slice AV k cV)) ahz e.symm);have e9:=Mt.cell 5;have z9:=Mt.free 5;simp only[fg]at e9;have Q9:=OV.o.app (i:=4) (r:=fe (H.map fun(r:eT)=>r.v) (.slice AV k cV)) rfl (cells #[.slice A6 dn.length c6] 22) Uv UG Wq 5;have To:=qh Q9;clear UG Uv Z0 Wq Mt Q9 SU;go_wp2
            have X3:=qh (show jG w (w9.setCell ⟨b,5,none⟩ (.slice A9 (k+1) c9)) b (.slice AP P.length cP) (slice (some ⟨bT,oT,none⟩) T.length cT) P T (.slice A2 (ac P).length c2) (.slice A9 (k+1) c9) (.slice V (k+1) Y) Pv (slice (some ⟨I,0,none⟩) (ac P).length cM) (H++[Kj (.slice A6 dn.length c6) dn]) (k+1)from by
              have e:(⟨22,.slice A9 (k+1) c9,k+1,(H.map fun(r:eT)=>r.v)++[.slice A6 dn.length c6]⟩:eT)=fe ((H++[Kj (.slice A6 dn.length c6) dn]).map fun(r:eT)=>r.v) (.slice A9 (k+1) c9):=(by unfold fe;simp[QQ.o,Kj]);refine⟨To.o.blk,?_,by simp[QQ.o],λi x r hT hU=>?_,To.o.bel⟩;. rw[<-e];exact To.o.rows
              . by_cases ZA:i<k;. rw[List.getElem?_append_left (by rw[QQ.o];exact ZA)]at hU;exact HF.o.up i x r hT hU
                . have ZB:i=k:=(by have h1:=(List.getElem?_eq_some_iff.1 hU).1;rw[List.length_append,List.length_singleton,QQ.o]at h1;omega);subst ZB;rw[tC _ _ _ QQ.o.symm]at hU;injection hU with hU;rw[HX.o.1]at hT;injection hT with hT
                  rw[<-hU,<-hT,<-X0.o];rfl)
            go_roundw;case rel=>exact⟨k+1,_,_,_,_,_,by go_num,by omega,X3.o⟩
            case measure=>simp[intOf];omega
    . obtain rfl:k=T.length:=by omega
      go_wp2;go_end0;exact⟨rfl,_,_,_,_,_,_,HF.o⟩
end
section
open Go.RowKit
structure iJ(w:World)(b:Nat)(P T:List Int):Prop where
 ok:a5 P T=0
 ex:∃AP cP AT cT vU vN vS vM us,Blk w b 213 (fg (.slice AP P.length cP) (.slice AT T.length cT) 1 0 vU vN vS vM)/\RdL w (.slice AP P.length cP) 1 encI P/\RdL w (.slice AT T.length cT) 1 encI T/\
  RdL w vN 1 encI (ao P T T.length)/\RdL w vS 1 encI (a6 T T.length)/\RdL w vM 1 encI (aH P T T.length)/\
  RdL w vU 1 (λv=>[v]) us/\us.length=T.length/\∀(i:Nat) (x:Int) (v:Value),T[i]? =some x->us[i]? =some v->RdL w v 1 encI (upL P x)
def iJ.below(h:iJ w b P T)(k:Below w.heap.size w w'):iJ w' b P T:=by obtain⟨H,cP,I,O,vU,vN,vS,vM,us,h1,V,Y,h4,h5,h6,h7,h8,h9⟩:=h.ex;exact⟨h.ok,H,cP,I,O,vU,vN,vS,vM,us,h1.below k h1.lt,V.below k (Nat.le_refl _),Y.below k (Nat.le_refl _),h4.below k (Nat.le_refl _),h5.below k (Nat.le_refl _),h6.below k (Nat.le_refl _),h7.below k (Nat.le_refl _),h8,λi x v a c=>(h9 i x v a c).below k (Nat.le_refl _)⟩
def eZ(w:World)(b:Nat)(P T:List Int)(h:iJ w b P T):E 133 #[↑b] w λe w'=>e= .returned ↑b/\w=w':=by obtain⟨V,cP,Y,cT,vU,vN,vS,vM,us,H,_⟩:=h.ex;have c2:=H.cell 2;simp only[fg]at c2;have I:=qh (λO=>DK b 2 O w c2);clear h H c2;go_enter func133,ntmps133;go_wp2_with fail;refine LT (I.o _) ?_;go_wp2;go_ret;exact⟨rfl,rfl⟩
end
section
open Go.RowKit
def Tab(w:World)(b:Nat)(P T:List Int):Prop:=a5 P T=0/\(JN w b P T\/iJ w b P T)
def iJ.tab(h:iJ w b P T):Tab w b P T:=⟨h.ok,.inr h⟩
def Tab.thr(h:Tab w b P T):∃H I,Z w b 1 (.slice H T.length I):=by
 rcases h.2 with O|O
 .obtain⟨V,cP,H,I,h1,_⟩:=O.ex;exact⟨H,I,h1.cell 1⟩
 .obtain⟨V,cP,H,I,vU,vN,vS,vM,Y,h1,_⟩:=O.ex;exact⟨H,I,h1.cell 1⟩
def eg(w:World)(b:Nat)(P T:List Int)(h:Tab w b P T):E 136 #[↑b] w λe w'=>e= returned (J (T.length:Nat))/\w=w':=by obtain⟨H,I,c1⟩:=h.thr;clear h;go_enter func136,ntmps136;go_wp2;go_ret;exact⟨rfl,rfl⟩
def F4(T:List Int)(i:Int):Bool:=decide (0<=i/\i<T.length)
def xz(w:World)(b:Nat)(P T:List Int)(i:Int)(r:Bool)(V:F4 T i=r)(h:Tab w b P T):E 132 #[↑b,J i] w λe w'=>e= returned (.bool r)/\w=w':=by
  have I:=qh (eg w b P T h);have H:=qh V;clear h V;go_enter func132,ntmps132;by_cases O:0<=i;. go_wp2_with fail;refine LT I.o ?_;go_wp2;go_ret;exact⟨az (by rw[<-H.o];simp[F4,O]),rfl⟩
  . go_wp2;go_ret;exact⟨az (by rw[<-H.o];unfold F4;symm;exact decide_eq_false ahy),rfl⟩
end
section
open Go.RowKit
variable{lo hi:Nat}{α:Type}
structure gU(lo:Nat)(w:World)(b:Nat)(P T:List Int):Prop where
 low:lo<=b
 ex:∃AP cP AT cT,Blk w b 213 #[.slice AP P.length cP,.slice AT T.length cT,.int .u32 0,.int .i32 0,.int .u32 0,.slice none 0 0,.slice none 0 0,.slice none 0 0,.slice none 0 0]/\RdL w (.slice AP P.length cP) 1 encI P/\RdL w (.slice AT T.length cT) 1 encI T/\(∀g,(Value.slice AP P.length cP).ownBlock=some g->g≠b)/\(∀g,(Value.slice AT T.length cT).ownBlock=some g->g≠b)/\
  (∀g,(Value.slice AP P.length cP).ownBlock=some g->lo<=g)/\(∀g,(Value.slice AT T.length cT).ownBlock=some g->lo<=g)
def RdB(lo hi:Nat)(w:World)(v:Value)(sz:Nat){α:Type}(enc:α->List Value)(l:List α):Prop:=RdL w v sz enc l/\(0<l.length->∀g,v.ownBlock=some g->lo<=g/\g<hi)
def RdB.keep{enc:α->List Value}{l:List α}(h:RdB lo hi w v sz enc l)(k:∀i,lo<=i->i<hi->w'.heap[i]? =w.heap[i]?)(hs:hi<=w'.heap.size):RdB lo hi w' v sz enc l:=by refine⟨?_,h.2⟩;obtain⟨A,cap,rfl,V,Y,h4⟩:=h.1;refine⟨A,cap,rfl,V,Y,λO=>?_⟩;obtain⟨b,off,rfl,I,hc⟩:=h4 O;have H:=h.2 O b rfl;refine⟨b,off,rfl,by omega,λi x hx j u hu=>?_⟩;rw[World.cell?_of_block (w:=w) (w':=w') (a:=⟨b,off+i*sz+j,none⟩) (k b H.1 H.2)];exact hc i x hx j u hu
def RdB.of{enc:α->List Value}{l:List α}(h:RdL w v sz enc l)(H:∀g,v.ownBlock=some g->lo<=g)(hs:hi=w.heap.size):RdB lo hi w v sz enc l:=by refine⟨h,λV g hg=>⟨H g hg,?_⟩⟩;obtain⟨A,cap,rfl,_,_,O⟩:=h;obtain⟨b,off,rfl,I,_⟩:=O V;injection hg with hg;subst hg;rw[hs];exact I
structure mo(lo hi:Nat)(w:World)(b:Nat)(P T:List Int):Prop where
 ok:a5 P T=0
 low:lo<=b
 high:b<hi
 ex:∃AP cP AT cT vU vN vS vM us,Blk w b 213 (fg (.slice AP P.length cP) (.slice AT T.length cT) 1 0 vU vN vS vM)/\RdB lo hi w (.slice AP P.length cP) 1 encI P/\RdB lo hi w (.slice AT T.length cT) 1 encI T/\
  RdB lo hi w vN 1 encI (ao P T T.length)/\RdB lo hi w vS 1 encI (a6 T T.length)/\RdB lo hi w vM 1 encI (aH P T T.length)/\
  RdB lo hi w vU 1 (λv=>[v]) us/\us.length=T.length/\∀(i:Nat) (x:Int) (v:Value),T[i]? =some x->us[i]? =some v->RdB lo hi w v 1 encI (upL P x)
def mo.f(h:mo lo hi w b P T):iJ w b P T:=by exact aag
def mo.keep(h:mo lo hi w b P T)(k:∀i,lo<=i->i<hi->w'.heap[i]? =w.heap[i]?)(hs:hi<=w'.heap.size):mo lo hi w' b P T:=by obtain⟨H,cP,I,O,vU,vN,vS,vM,us,h1,V,Y,h4,h5,h6,h7,h8,h9⟩:=h.ex;exact⟨h.ok,h.low,h.high,H,cP,I,O,vU,vN,vS,vM,us,(k b h.low h.high).trans h1,V.keep k hs,Y.keep k hs,h4.keep k hs,h5.keep k hs,h6.keep k hs,h7.keep k hs,h8,λi x v a c=>(h9 i x v a c).keep k hs⟩
def i2(w:World)(Y vT:Value)(P T:List Int)(hP:RdL w Y 1 encI P)(hT:RdL w vT 1 encI T)(hc:a5 P T=0):E 63 #[agg #[Y,vT]] w λe w'=>∃b,e= returned (tuple #[pointer (some ⟨b,0,none⟩),J 0])/\w.heap.size<=b/\gU w.heap.size w' b P T/\Below w.heap.size w w':=by
  have HC:=kA (w.alloc (cells #[Y,vT] 24)) Y vT P T (hP.alloc _) (hT.alloc _);rw[hc]at HC;have Sa:=qh HC;have KZ:=qh ((Below.refl w.heap.size w).alloc (Nat.le_refl _) (cells #[Y,vT] 24));have Ob:=qh (And.intro hP hT);have KY:=bj (aR hc).1;obtain⟨I,cP,rfl,S7,S8⟩:=cj hP;obtain⟨O,V,rfl,QA,QB⟩:=cj hT;have HX:=qh (show(w.alloc (cells #[.slice I P.length cP,.slice O T.length V] 24)).cell? w.heap.size=some (.slice I P.length cP)/\(w.alloc (cells #[.slice I P.length cP,.slice O T.length V] 24)).cell? ⟨w.heap.size,1,none⟩=some (.slice O T.length V)by simp[World.cell?_alloc_new]);have Mb:w.heap.size<(w.alloc (cells #[.slice I P.length cP,.slice O T.length V] 24)).heap.size:=by simp
  clear hP hT hc HC;go_enter func63,ntmps63;go_wp2_with fail;refine ST Sa.o λw1 b1=>?_;have f0:=(b1.cell (p:=w.heap.size) Mb).trans HX.o.1;have f1:=(b1.cell (p:=⟨w.heap.size,1,none⟩) Mb).trans HX.o.2;have Kl:=b1.size;simp at Kl;have H:=qh (KZ.o.trans (b1.mono KZ.o.size));have Vv:=qh (λW (h:Below w1.heap.size w1 W)=>And.intro (Ob.o.1.below (H.o.trans (h.mono H.o.size)) (Nat.le_refl _)) (Ob.o.2.below (H.o.trans (h.mono H.o.size)) (Nat.le_refl _)));have bd:Below w1.heap.size w1 w1.drew:=(Below.refl _ _).drew;clear b1;go_wp2_with fail
  go_region_held3 (λW=>W.cell? w.heap.size=some (.slice I P.length cP)/\Z W w.heap.size 1 (.slice O T.length V))
    (first|exact⟨f0,f1⟩|exact⟨(k3.cell (p:=w.heap.size) (show w.heap.size<w1.heap.size by omega)).trans f0,(k3.cell (p:=⟨w.heap.size,1,none⟩) (show w.heap.size<w1.heap.size by omega)).trans f1⟩|exact⟨(k2.cell (p:=w.heap.size) (show w.heap.size<w1.heap.size by omega)).trans f0,(k2.cell (p:=⟨w.heap.size,1,none⟩) (show w.heap.size<w1.heap.size by omega)).trans f1⟩|exact⟨((k3.alloc k3.size _).cell (p:=w.heap.size) (show w.heap.size<w1.heap.size by omega)).trans f0,((k3.alloc k3.size _).cell (p:=⟨w.heap.size,1,none⟩) (show w.heap.size<w1.heap.size by omega)).trans f1⟩)
    (first
      | (go_at_call 78;with_reducible refine(mx _ _ P (Vv.o _ bd).1 ahy).mono ?_;rintro e w2 ⟨v2,rfl,o2,b2⟩;obtain⟨A2,c2,rfl⟩:=bC o2;(have k2:Below w1.heap.size w1 w2:=bd.trans (b2.mono ahz));have O2:=qh o2;clear o2)
      | (go_at_call 78;with_reducible refine(mx _ _ T (Vv.o _ k2).2 ahy).mono ?_;rintro e w3 ⟨v3,rfl,o3,b3⟩;obtain⟨A3,c3,rfl⟩:=bC o3;(have k3:Below w1.heap.size w1 w3:=k2.trans (b3.mono k2.size));have O3:=qh o3;clear o3))
  all_goals
    have Lc:=k3.size;have e2:∀g,(Value.slice A2 P.length c2).ownBlock=some g->g≠w3.heap.size:=λg hg=>by have:=(O2.o.lt g hg).2;have:=b3.size;omega
    have e3:∀g,(Value.slice A3 T.length c3).ownBlock=some g->g≠w3.heap.size:=λg hg=>by have:=(O3.o.lt g hg).2;omega
    have No:=qh (show gU w.heap.size (w3.alloc (cells #[.slice A2 P.length c2,.slice A3 T.length c3,.int .u32 0,.int .i32 0,.int .u32 0,.slice none 0 0,.slice none 0 0,.slice none 0 0,.slice none 0 0] 213)) w3.heap.size P T from
      ⟨Nat.le_trans H.o.size Lc,A2,c2,A3,c3,Blk.new _ _ _,(dP (i7 O2.o b3) ahy).alloc _,(dP O3.o ahy).alloc _,e2,e3,λg hg=>by have h1:w1.heap.size<=g:=(O2.o.lt g hg).1;have:=H.o.size;omega,λg hg=>by have h1:w2.heap.size<=g:=(O3.o.lt g hg).1;have:=H.o.size;have:=k2.size;omega⟩)
    have Pz:=qh ((H.o.trans (k3.mono H.o.size)).alloc (Nat.le_trans H.o.size Lc) (cells #[.slice A2 P.length c2,.slice A3 T.length c3,.int .u32 0,.int .i32 0,.int .u32 0,.slice none 0 0,.slice none 0 0,.slice none 0 0,.slice none 0 0] 213));go_wp2;go_ret2;exact⟨_,rfl,Nat.le_trans H.o.size Lc,No.o,Pz.o⟩
def me{us:List eT}(hc:a5 P T=0)(h:jG w1 w2 b (.slice H P.length cP) (.slice I T.length cT) P T vL vU vN vS vM us T.length)(hP:RdL w1 (.slice H P.length cP) 1 encI P)(hT:RdL w1 (.slice I T.length cT) 1 encI T)(nP:∀g,(Value.slice H P.length cP).ownBlock=some g->g≠b)(nT:∀g,(Value.slice I T.length cT).ownBlock=some g->g≠b)(ab:lo<=b)(KI:b<w1.heap.size)(lP:∀g,(Value.slice H P.length cP).ownBlock=some g->lo<=g)(lT:∀g,(Value.slice I T.length cT).ownBlock=some g->lo<=g):mo lo (dw b 2 w2).heap.size (dw b 2 w2) b P T/\aa [b] w1 (dw b 2 w2):=by
  refine ajg ?_;intro KY LC k0 k1 V;have Ng:∀r∈([Kj vL (ac P),Kj vM (aH P T T.length),Kj vN (ao P T T.length),Kj vS (a6 T T.length),fe (us.map (·.v)) vU]++us),∀g,r.v.ownBlock=some g->lo<=g:=λr hm g hg=>by have:=((V r hm).lt g hg).1;omega
  refine⟨⟨hc,ab,by have:=k1.size;omega,H,cP,I,cT,vU,vN,vS,vM,us.map (·.v),?_,RdB.of (hP.turns k1 (λg hg hm=>by simp at hm;exact nP g hg hm)) lP rfl,RdB.of (hT.turns k1 (λg hg hm=>by simp at hm;exact nT g hg hm)) lT rfl,RdB.of ?_ (Ng (Kj vN (ao P T T.length)) ahz) rfl,RdB.of ?_ (Ng (Kj vS (a6 T T.length)) ahz) rfl,RdB.of ?_ (Ng (Kj vM (aH P T T.length)) ahz) rfl,RdB.of ?_ (Ng (fe (us.map (·.v)) vU) ahz) rfl,by simp[h.len],λi x v hi O=>?_⟩,k1⟩;. exact((h.blk.drew).set_ 2 (.int .u32 1)).set_ 3 (.int .i32 0)
  . exact dP (V (Kj vN (ao P T T.length)) ahz) (by rw[cZ (Nat.le_refl _)];omega)
  . exact dP (V (Kj vS (a6 T T.length)) ahz) (by rw[gu];omega)
  . exact dP (V (Kj vM (aH P T T.length)) ahz) (by rw[cY];omega)
  . have h1:=V (fe (us.map (·.v)) vU) ahz;refine ajQ ?_;intro e;exact h1
  . rw[List.getElem?_map]at O;cases hu:us[i]? with
    | none=>rw[hu]at O;cases O
    | some r=>rw[hu]at O;injection O with O;subst O;have MX:=h.up i x r hi hu;have Y:=V r aic;rw[MX]at Y;refine RdB.of (dP Y (by have:=sf P x;omega)) (λg hg=>Ng r aic g ?_) rfl;rw[MX];exact hg
def rj(lo:Nat)(w:World)(b:Nat)(P T:List Int)(hc:a5 P T=0)(h:gU lo w b P T):E 133 #[↑b] w λe w'=>e= .returned ↑b/\mo lo w'.heap.size w' b P T/\aa [b] w w':=by
  have H:=h.low;have O:b<w.heap.size:=by obtain⟨_,_,_,_,hB,_⟩:=h.ex;exact hB.lt
  obtain⟨AP,cP,AT,cT,hB,hP,hT,nP,nT,V,lT⟩:=h.ex;refine ajp ?_;intro k0 Of MG hf
  have HD:=qh (sW b 2 ↑b w (λw2=>mo lo (dw b 2 w2).heap.size (dw b 2 w2) b P T/\aa [b] w (dw b 2 w2)) (hB.cell 2) (hB.cell 3) (hB.free 2) (hB.free 3)
    (hf.mono λe w2 ⟨he,vL,vU,vN,vS,vM,us,I⟩=>⟨he,⟨I.blk.cell 2,I.blk.cell 3,I.blk.free 2,I.blk.free 3⟩,(me hc I Of MG nP nT H (by simpa[World.setCell]using O) V lT).1,k0.trans (me hc I Of MG nP nT H (by simpa[World.setCell]using O) V lT).2⟩))
  clear hf Of MG hB hP hT nP nT V lT k0 hc h H O;go_enter func133,ntmps133;go_wp2_with fail;refine HD.o.mono ?_;rintro en w' ⟨rfl,w2,Y,hw⟩;have HR:=qh (show mo lo w'.heap.size w' b P T/\aa [b] w w' by rw[hw];exact Y);clear Y hw;go_wp2;go_ret;exact⟨rfl,HR.o⟩
def Gt(lo:Nat)(w:World)(b:Nat)(P T:List Int)(hc:a5 P T=0)(h:gU lo w b P T):E 137 #[↑b] w λe w'=>e= returned (J ((ac P).length:Nat))/\mo lo w'.heap.size w' b P T/\aa [b] w w':=by have O:=qh (rj lo w b P T hc h);clear h hc;go_enter func137,ntmps137;go_wp2_with fail;refine Pi O.o λw' H=>?_;have V:=qh (And.intro H.o.1 H.o.2);obtain⟨AP,cP,AT,cT,vU,vN,vS,vM,us,h1,h2,h3,h4,h5,I,h7,h8,h9⟩:=H.o.1.f.ex;obtain⟨AM,cM,rfl,_,_⟩:=cj I;have Y:=h1.cell 8;simp only[fg,cY]at Y;clear h1 h2 h3 h4 h5 I h7 h8 h9;go_wp2;go_ret;exact⟨rfl,V.o⟩
def jZ(w:World)(b:Nat)(P T:List Int)(i:Nat)(hi:i<T.length)(h:iJ w b P T)(x:Int)(Y:(ao P T T.length)[i]? =some x):E 100 #[↑b,J i] w λe w'=>e= returned (J x)/\w=w':=by have HF:=qh (eZ w b P T h);have HH:=qh (xz w b P T i true (decide_eq_true ahy) h.tab);have HX:=qh Y;have Np:=qh h;clear h Y;go_enter func100,ntmps100;go_wp2_with fail;refine LT HH.o ?_;go_wp2_with fail;refine LT HF.o ?_;have O:=Np.o;obtain⟨AP,cP,AT,cT,vU,vN,vS,vM,us,h1,h2,h3,H,h5,h6,h7,h8,h9⟩:=O.ex;have V:(ao P T T.length).length=T.length:=cZ (Nat.le_refl _);obtain⟨AM,cM,rfl,_,_⟩:=cj H;obtain⟨b1,o1,hA,_,I⟩:=fZ H ahy;subst hA;have q1:=I i x HX.o;have c8:=h1.cell 6;rw[V]at *;simp only[fg]at c8;clear O h1 h2 h3 H h5 h6 h7 h8 h9 I V;go_wp2;go_ret;exact⟨rfl,rfl⟩
end
section
open Go Go.RowKit
variable{lo:Nat}
def Ac(W:World)(ms:MS n)(P T:List Int)(e:Ending)(w':World):Prop:=
 ∃(X:WoB ms.1) (lo:Nat),e= returned (tuple #[lkP X.wb,J 0])/\ms.1.Good/\ms.1.ok ms.2 0/\bI X w' ms.2/\(∀x∈ms.1.fp X.b,W.heap.size<=x)/\(W.heap.size<=X.wb/\W.heap.size<=ms.1.bt X.b)/\(ms.1.hi X.b<=lo/\W.heap.size<=X.tb/\X.tb<X.wb/\gU lo w' X.tb P T)/\Below W.heap.size W w'
def gU.below(h:gU lo w b P T)(t:Below w.heap.size w w'):gU lo w' b P T:=by obtain⟨h1,I,cP,O,V,H,Y,h4,h5⟩:=h;exact⟨h1,I,cP,O,V,H.below t H.lt,Y.below t (Nat.le_refl _),h4.below t (Nat.le_refl _),h5⟩
def IM{W:World}{vP:Value}{AT:Option Addr}{gl pa bu:Nat}{H:MS T.length}(hP:RdL W vP 1 encI P)(hT:RdL W (.slice AT T.length cT) 1 encI T)(Pe:a5 P T=0)(Mf:H.1.rd=decide (11<=(k:Int)/\(k:Int)<=13))(HN:∀gs a g,Below W.heap.size W gs->aB gs a g (dJ 4096)->W.heap.size<=a->W.heap.size<=g->E 13 #[pointer (some ⟨a,0,none⟩),agg #[vP,.slice AT T.length cT],agg #[J k,J gl,J lo,J pa,J bu]] gs (uK gs a g T.length H)):E 20 #[agg #[vP,.slice AT T.length cT],agg #[J k,J gl,J lo,J pa,J bu]] W (Ac W H P T):=by
  refine ajh ?_;intro Kn w0 E';rw[<-E']at Kn;refine ajw ?_;intro PW k1 k2
  have HC:=qh (λgs (h:Below w0.heap.size w0 gs)=>show gs.cell? W.heap.size=some vP/\Z gs W.heap.size 1 (.slice AT T.length cT)/\Z gs (W.heap.size+1) 0 (J k)/\Z gs (W.heap.size+1) 1 (J gl)/\Z gs (W.heap.size+1) 2 (J lo)/\Z gs (W.heap.size+1) 3 (J pa)/\gs.cell? ⟨W.heap.size+1,4,none⟩=some (J bu)from
    ⟨(k1.below h k1.lt).cell 0,(k1.below h k1.lt).cell 1,(k2.below h k2.lt).cell 0,(k2.below h k2.lt).cell 1,(k2.below h k2.lt).cell 2,(k2.below h k2.lt).cell 3,(k2.below h k2.lt).cell 4⟩)
  have Ob:=qh (λgs (h:Below w0.heap.size w0 gs)=>And.intro (RdL.below (RdL.below hP Kn (Nat.le_refl _)) h ahy) (RdL.below (RdL.below hT Kn (Nat.le_refl _)) h ahy));have Y:=qh Kn;have Ln:=qh E';have ME:=qh HN;have Od:=qh Mf;clear hP hT Kn E' k1 k2 HN Mf;go_enter func20,ntmps20;go_wp2_with fail;rw[<-Ln.o];refine(tZ w0 4096).mono ?_;rintro en w1 ⟨a,g,rfl,V,ha,hg,b1⟩;obtain⟨c0,c1,c2,c3,c4,c5,c6⟩:=HC.o w1 b1;have NP:a<w1.heap.size:=V.blk.lt;have ab:g<w1.heap.size:=V.wds.lt;have HL:=qh (ME.o w1 a g (Y.o.trans (b1.mono Y.o.size)) V ahy ahy);have B1:=qh (And.intro b1 V);have Kl:=b1.size;clear b1 V;go_wp2_with fail;refine HL.o.mono ?_;rintro en w2 ⟨b,lb,rfl,hG,mP,O,KF,Pc,t2⟩;have Ko:=t2.size;have Nv:Below w0.heap.size w0 w2:=B1.o.1.trans (t2.below (λi hi=>by simp at hi;rcases hi with rfl|rfl<;>omega) B1.o.1.size);have I:=qh (And.intro Nv (And.intro hG (And.intro mP (And.intro O KF))));have XW:=qh (show W.heap.size<=H.1.bt b by omega);have Uw:=(hG.fpa _ _ _ _ _ _ O).2;clear c0 c1 c2 c3 c4 c5 c6 hG mP O KF Pc t2;obtain⟨c0,c1,c2,c3,c4,c5,c6⟩:=HC.o w2 Nv;clear Nv;have HN:=qh (i2 w2 vP (.slice AT T.length cT) P T (Ob.o w2 I.o.1).1 (Ob.o w2 I.o.1).2 Pe);unfold lkP;go_wp2_with fail;refine HN.o.mono ?_;rintro en w3 ⟨tb,rfl,OP,h3,b3⟩;have Lc:=b3.size;obtain⟨-,-,c0,-,-,-,-⟩:=HC.o w3 (I.o.1.trans (b3.mono I.o.1.size));have B3:=qh (And.intro b3 h3);have US:tb<w3.heap.size:=by obtain⟨_,_,_,_,_,hk,_⟩:=h3;exact hk.lt
  clear b3 h3;go_wp2_with fail;refine LT (xS _ _ H.1.rd Od.o) ?_
  have HF:=qh (show Ac W H P T (returned (tuple #[↑w3.heap.size,J 0])) (w3.alloc (cells #[pointer (some ⟨a,0,none⟩),↑tb,↑lb,.bool H.1.rd] 121))from by
    have Rf:=(Below.refl w3.heap.size w3).alloc (Nat.le_refl _) (cells #[pointer (some ⟨a,0,none⟩),↑tb,↑lb,.bool H.1.rd] 121);obtain⟨G,mP,O,KF⟩:=I.o.2;have C':=(G.fpa _ _ _ _ _ _ O).1;refine⟨⟨b,a,g,w3.heap.size,lb,tb,w3.heap.size+1⟩,w2.heap.size,rfl,G,mP,⟨?_,Blk.new _ _ _,λhm=>?_,by show H.1.hi b<=w3.heap.size+1;omega,by show w3.heap.size<w3.heap.size+1;omega,by simp⟩,λx hx=>?_,⟨by show W.heap.size<=w3.heap.size;omega,XW.o⟩,⟨Uw,by show W.heap.size<=tb;omega,by show tb<w3.heap.size;omega,B3.o.2.below Rf⟩,?_⟩;. exact G.far _ _ _ _ _ _ _ [] O (aa.of_below (B3.o.1.trans (Rf.mono ahy))) ahz
    . have:w3.heap.size<H.1.hi b:=C' _ hm;omega
    . have:=KF x hx;omega
    . exact(Y.o.trans ((I.o.1.trans (B3.o.1.mono I.o.1.size)).mono Y.o.size)).trans (Rf.mono ahy))
  go_wp2;go_ret2;exact HF.o
end
section
open Go Go.RowKit
def spV(a0 a1 a2 a3:Nat):Value:= agg #[J ((1+a3%13:Nat):Int),J ((1+a0%5:Nat):Int),J ((1+a1%5:Nat):Int),J ((1+a2/4%4:Nat):Int),J ((a2%4:Nat):Int)]
def GJ(w:World)(a0 a1 H O:Nat)(h0:a0<256)(h1:a1<256)(h2:H<256)(h3:O<256):E 21 #[agg #[.int .u8 a0,.int .u8 a1,.int .u8 H,.int .u8 O]] w λe w'=>e= returned (spV a0 a1 H O)/\Below w.heap.size w w':=by
  have x1:IntKind.i64.wrap (1+(a0:Int)%5)=1+(a0:Int)%5:=IntWalk.i64_in _ ahy;have x2:IntKind.i64.wrap (1+(a1:Int)%5)=1+(a1:Int)%5:=IntWalk.i64_in _ ahy;have x3:IntKind.i64.wrap (1+(H:Int)/4%4)=1+(H:Int)/4%4:=IntWalk.i64_in _ ahy;have x4:IntKind.i64.wrap (1+(O:Int)%13)=1+(O:Int)%13:=IntWalk.i64_in _ ahy;obtain⟨w0,V⟩:=LE ((w.alloc (cells #[.int .u8 a0,.int .u8 a1,.int .u8 H,.int .u8 O] 25)).alloc (cells #[J 0,J 0,J 0,J 0,J 0] 38));have I:Below w.heap.size w w0:=by rw[V];exact((Below.refl w.heap.size w).alloc (Nat.le_refl _) _).alloc ahz _
  have k1:Blk w0 w.heap.size 25 #[.int .u8 a0,.int .u8 a1,.int .u8 H,.int .u8 O]:=by rw[V];exact(Blk.new w _ _).alloc _
  have k2:Blk w0 (w.heap.size+1) 38 #[J 0,J 0,J 0,J 0,J 0]:=by rw[V];exact Blk.new' _ _ _ ahz
  have h:=qh (And.intro I k2);have Y:=qh V;have c0:=k1.cell 0;have c1:=k1.cell 1;have c2:=k1.cell 2;have c3:=k1.cell 3;clear I k1 k2 V;go_enter func21,ntmps21;go_upto_region 1 with fail;rw[<-Y.o];have z0:=h.o.2.free 0;have z1:=h.o.2.free 1;have z2:=h.o.2.free 2;have z3:=h.o.2.free 3;have z4:=h.o.2.free 4;have y0:=h.o.2.cell 0;have y1:=h.o.2.cell 1;have y2:=h.o.2.cell 2;have y3:=h.o.2.cell 3;have y4:=h.o.2.cell 4;go_wp2;exact bodyPost_ret (results_cell_row ahC _ _ (w.heap.size+1) 38 _ (0,0) _ ahC (by exact((((h.o.2.set_ 0 _).set_ 1 _).set_ 2 _).set_ 3 _).set_ 4 _) Tryz.underlying38 rfl ahB) rfl ⟨by unfold spV;simp,((((h.o.1.setCell (Nat.le_succ _) _).setCell (Nat.le_succ _) _).setCell (Nat.le_succ _) _).setCell (Nat.le_succ _) _).setCell (Nat.le_succ _) _⟩
end
section
open Go Go.RowKit
def Ae(mf:(P T:List Int)->Nat->Nat->Nat->Nat->Nat->MS T.length):Prop:=∀(W:World) (vP:Value) (AT:Option Addr) (cT:Nat) (P T:List Int) (k gl lo pa bu:Nat),RdL W vP 1 encI P->RdL W (.slice AT T.length cT) 1 encI T->a5 P T=0->1<=k/\k<=13->1<=gl/\gl<=5->1<=lo/\lo<=5->1<=pa/\pa<=4->bu<=3->
 E 20 #[agg #[vP,.slice AT T.length cT],agg #[J k,J gl,J lo,J pa,J bu]] W (Ac W (mf P T gl lo pa bu k) P T)
end
section
open Go Go.RowKit
def GZ(h:Awk 19)(w:World)(Y vT:Value)(a0 a1 O V:Int)(A:Option Addr)(m c:Nat)(h1:150<m)(h2:m<=9223372036854775807):E 4 #[agg #[Y,vT],agg #[.int .u8 a0,.int .u8 a1,.int .u8 O,.int .u8 V],.slice A m c] w λe w'=>e= returned (bool true)/\Below w.heap.size w w':=by have H:=qh (((Below.refl w.heap.size w).alloc (Nat.le_refl _) (cells #[Y,vT] 24)).alloc ahz (cells #[.int .u8 a0,.int .u8 a1,.int .u8 O,.int .u8 V] 25));have HA:=qh h;clear h;go_enter func4,ntmps4;go_wp2_with fail;refine Pi (HA.o _) λw1 I=>?_;have H1:=qh (H.o.trans (I.o.mono H.o.size));go_wp2;go_ret;exact⟨rfl,H1.o⟩
def JJ(V:Awk 19)(w:World)(h H:Value)(a0 a1 a2 a3:Int)(hs:Ag w h H 8)(A:Option Addr)(m c:Nat)(hm:m<=150):E 4 #[agg #[h,H],agg #[.int .u8 a0,.int .u8 a1,.int .u8 a2,.int .u8 a3],.slice A m c] w λe w'=>e= returned (bool true)/\Below w.heap.size w w':=by obtain⟨w0,I⟩:=LE ((w.alloc (cells #[h,H] 24)).alloc (cells #[.int .u8 a0,.int .u8 a1,.int .u8 a2,.int .u8 a3] 25));have O:=qh (show Below w.heap.size w w0 from by rw[I];exact((Below.refl w.heap.size w).alloc (Nat.le_refl _) _).alloc ahz _);have HX:=qh (show Blk w0 w.heap.size 24 #[h,H]from by rw[I];exact(Blk.new w 24 #[h,H]).alloc _);have HS:=qh hs;have HA:=qh V;clear hs V;go_enter func4,ntmps4;go_upto_region 1 with fail;rw[<-I];clear I;have f0:w0.cell? w.heap.size=some h:=HX.o.cell 0;have f1:Z w0 w.heap.size 1 H:=HX.o.cell 1;go_wp2_with fail;refine Pi (HS.o _ O.o) λw2 b2=>?_;have Y:=qh (O.o.trans (b2.o.mono O.o.size));go_wp2_with fail;refine Pi (HA.o _) λw3 b3=>?_;have M1:=qh (Y.o.trans (b3.o.mono Y.o.size));go_wp2;go_ret;exact⟨rfl,M1.o⟩
structure WtR{n:Nat}{M:LkM n}(X:WoB M)(w0 w:World)(sb ab eb:Nat)(st:M.σ)(N:Nat)(L:List (Int×Bool))(ev:Ev)(v:Value)(ws:List Int):Prop where
 is:bI X w st
 ok:M.ok st N
 sh:fz w sb ab L
 bel:Below w0.heap.size w0 w
 evb:Blk w eb 55 (evC ev)
 wd:RdL w v 1 encI ws
 nw:∀q,v.ownBlock=some q->q≠ab
 ne:eb≠ab
 lo:X.hi<=sb/\X.hi<=ab/\w0.heap.size<=ab
section
variable{M:LkM n}{X:WoB M}{sb ab eb:Nat}{st st':M.σ}{N:Nat}{L L':List (Int×Bool)}{ev:Ev}{ws:List Int}
def WtR.below(G:M.Good)(h:WtR X w0 w sb ab eb st N L ev v ws)(t:Below w.heap.size w w'):WtR X w0 w' sb ab eb st N L ev v ws:=
 ⟨h.is.below G t,h.ok,h.sh.below t,h.bel.trans (t.mono h.bel.size),h.evb.below t h.evb.lt,h.wd.below t (Nat.le_refl _),h.nw,h.ne,h.lo⟩
def WtR.act(G:M.Good)(h:WtR X w0 w sb ab eb st N L ev v ws)(t:aa [ab] w w')(s:fz w' sb ab L'):WtR X w0 w' sb ab eb st N L' ev v ws:=
 ⟨h.is.far G t (λx H=>by simp at H;subst H;exact h.lo.2.1),h.ok,s,h.bel.trans (t.below (λi hi=>by simp at hi;subst hi;exact h.lo.2.2) h.bel.size),t.blk h.evb (by simpa using h.ne),h.wd.farT t (λq I=>by simpa using h.nw q I),h.nw,h.ne,h.lo⟩
def WtR.evc(h:WtR X w0 w sb ab eb st N L ev v ws):w.cell? eb=some (J ev.kind)/\Z w eb 1 (J ev.thread)/\Z w eb 2 (.bool ev.read)/\Z w eb 3 (J ev.count):=⟨h.evb.cell 0,h.evb.cell 1,h.evb.cell 2,h.evb.cell 3⟩
structure WtS(X:WoB M)(w0 w:World)(sb ab:Nat)(st:M.σ)(N:Nat):Prop where
 is:bI X w st
 ok:M.ok st N
 sh:fz w sb ab (M.view st)
 bel:Below w0.heap.size w0 w
 lo:X.hi<=sb/\X.hi<=ab/\w0.heap.size<=ab
end
end
section
open Go.RowKit
variable{α:Type}{C:Nat->Prop}{S:List Nat}
structure gV(B:Nat->Prop)(w:World)(b:Nat)(P T:List Int):Prop where
 low:B b
 ex:∃AP cP AT cT,Blk w b 213 #[.slice AP P.length cP,.slice AT T.length cT,.int .u32 0,.int .i32 0,.int .u32 0,.slice none 0 0,.slice none 0 0,.slice none 0 0,.slice none 0 0]/\RdL w (.slice AP P.length cP) 1 encI P/\RdL w (.slice AT T.length cT) 1 encI T/\(∀g,(Value.slice AP P.length cP).ownBlock=some g->g≠b)/\(∀g,(Value.slice AT T.length cT).ownBlock=some g->g≠b)/\
  (∀g,(Value.slice AP P.length cP).ownBlock=some g->B g)/\(∀g,(Value.slice AT T.length cT).ownBlock=some g->B g)
def j4{enc:α->List Value}{l:List α}(h:RdL w v sz enc l)(O:0<l.length){g:Nat}(hg:v.ownBlock=some g):g<w.heap.size:=by obtain⟨A,cap,rfl,_,_,H⟩:=h;obtain⟨b,off,rfl,I,_⟩:=H O;injection hg with hg;subst hg;exact I
def gU.q{lo:Nat}(hc:a5 P T=0)(h:gU lo w b P T):gV (λi=>lo<=i/\i<w.heap.size) w b P T:=by have KY:=bj (aR hc).1;obtain⟨O,cP,V,Y,h1,H,I,h4,h5,h6,h7⟩:=h.ex;exact⟨⟨h.low,h1.lt⟩,O,cP,V,Y,h1,H,I,h4,h5,λg hg=>⟨h6 g hg,j4 H ahy hg⟩,λg hg=>⟨h7 g hg,j4 I ahy hg⟩⟩
def gV.turns(h:gV B w b P T)(k:aa S w w')(H:∀i∈S,¬B i):gV B w' b P T:=by obtain⟨V,cP,Y,cT,h1,h2,h3,h4,h5,I,O⟩:=h.ex;exact⟨h.low,V,cP,Y,cT,k.blk h1 (λhm=>H _ hm h.low),h2.turns k (λg hg hm=>H g hm (I g hg)),h3.turns k (λg hg hm=>H g hm (O g hg)),h4,h5,I,O⟩
def gV.tab(hc:a5 P T=0)(h:gV B w b P T):Tab w b P T:=by obtain⟨H,cP,I,O,h1,V,Y,h4,h5,h6,h7⟩:=h.ex;exact⟨hc,.inl ⟨H,cP,I,O,h1,V,Y,h4,h5⟩⟩
def RdQ(B:Nat->Prop)(w:World)(v:Value)(sz:Nat){α:Type}(enc:α->List Value)(l:List α):Prop:=RdL w v sz enc l/\(0<l.length->∀g,v.ownBlock=some g->B g)
def RdQ.keep{enc:α->List Value}{l:List α}(h:RdQ B w v sz enc l)(k:∀i,B i->i<w.heap.size->w'.heap[i]? =w.heap[i]?)(hs:w.heap.size<=w'.heap.size):RdQ B w' v sz enc l:=by refine⟨?_,h.2⟩;obtain⟨A,cap,rfl,V,Y,h4⟩:=h.1;refine⟨A,cap,rfl,V,Y,λO=>?_⟩;obtain⟨b,off,rfl,I,hc⟩:=h4 O;have H:=h.2 O b rfl;refine⟨b,off,rfl,by omega,λi x hx j u hu=>?_⟩;rw[World.cell?_of_block (w:=w) (w':=w') (a:=⟨b,off+i*sz+j,none⟩) (k b H I)];exact hc i x hx j u hu
def RdQ.of{enc:α->List Value}{l:List α}(h:RdL w v sz enc l)(H:∀g,v.ownBlock=some g->B g):RdQ B w v sz enc l:=⟨h,λ_=>H⟩
structure dD(B:Nat->Prop)(w:World)(b:Nat)(P T:List Int):Prop where
 ok:a5 P T=0
 low:B b
 ex:∃AP cP AT cT vU vN vS vM us,Blk w b 213 (fg (.slice AP P.length cP) (.slice AT T.length cT) 1 0 vU vN vS vM)/\RdQ B w (.slice AP P.length cP) 1 encI P/\RdQ B w (.slice AT T.length cT) 1 encI T/\
  RdQ B w vN 1 encI (ao P T T.length)/\RdQ B w vS 1 encI (a6 T T.length)/\RdQ B w vM 1 encI (aH P T T.length)/\
  RdQ B w vU 1 (λv=>[v]) us/\us.length=T.length/\∀(i:Nat) (x:Int) (v:Value),T[i]? =some x->us[i]? =some v->RdQ B w v 1 encI (upL P x)
def dD.f(h:dD B w b P T):iJ w b P T:=by exact aag
def dD.turns(h:dD B w b P T)(t:aa S w w')(hS:∀i∈S,¬B i):dD B w' b P T:=by have k:∀i,B i->i<w.heap.size->w'.heap[i]? =w.heap[i]?:=λi hi hl=>t.block i hl λhm=>hS i hm hi;have hs:=t.size;obtain⟨H,cP,I,O,vU,vN,vS,vM,us,h1,V,Y,h4,h5,h6,h7,h8,h9⟩:=h.ex;exact⟨h.ok,h.low,H,cP,I,O,vU,vN,vS,vM,us,(k b h.low h1.lt).trans h1,V.keep k hs,Y.keep k hs,h4.keep k hs,h5.keep k hs,h6.keep k hs,h7.keep k hs,h8,λi x v a c=>(h9 i x v a c).keep k hs⟩
def RdQ.mono{enc:α->List Value}{l:List α}(h:RdQ B w v sz enc l)(k:∀i,B i->C i):RdQ C w v sz enc l:=⟨h.1,λH g hg=>k g (h.2 H g hg)⟩
def dD.mono(h:dD B w b P T)(k:∀i,B i->C i):dD C w b P T:=by obtain⟨H,cP,I,O,vU,vN,vS,vM,us,h1,V,Y,h4,h5,h6,h7,h8,h9⟩:=h.ex;exact⟨h.ok,k _ h.low,H,cP,I,O,vU,vN,vS,vM,us,h1,V.mono k,Y.mono k,h4.mono k,h5.mono k,h6.mono k,h7.mono k,h8,λi x v a c=>(h9 i x v a c).mono k⟩
def dD.size{m:Nat}(h:dD (λi=>B i\/m<=i) w b P T)(e:m=n):dD (λi=>B i\/n<=i) w b P T:=by subst e;exact h
def mg{us:List eT}(hc:a5 P T=0)(h:jG w1 w2 b (.slice H P.length cP) (.slice I T.length cT) P T vL vU vN vS vM us T.length)(hP:RdL w1 (.slice H P.length cP) 1 encI P)(hT:RdL w1 (.slice I T.length cT) 1 encI T)(nP:∀g,(Value.slice H P.length cP).ownBlock=some g->g≠b)(nT:∀g,(Value.slice I T.length cT).ownBlock=some g->g≠b)(ab:B b)(lP:∀g,(Value.slice H P.length cP).ownBlock=some g->B g)(lT:∀g,(Value.slice I T.length cT).ownBlock=some g->B g):dD (λi=>B i\/w1.heap.size<=i) (dw b 2 w2) b P T/\aa [b] w1 (dw b 2 w2):=by
  refine ajg ?_;intro KY LC k0 k1 V;have Ng:∀r∈([Kj vL (ac P),Kj vM (aH P T T.length),Kj vN (ao P T T.length),Kj vS (a6 T T.length),fe (us.map (·.v)) vU]++us),∀g,r.v.ownBlock=some g->(B g\/w1.heap.size<=g):=λr hm g hg=> .inr ((V r hm).lt g hg).1;refine⟨⟨hc,.inl ab,H,cP,I,cT,vU,vN,vS,vM,us.map (·.v),?_,RdQ.of (hP.turns k1 (λg hg hm=>by simp at hm;exact nP g hg hm)) (λg hg=> .inl (lP g hg)),RdQ.of (hT.turns k1 (λg hg hm=>by simp at hm;exact nT g hg hm)) (λg hg=> .inl (lT g hg)),RdQ.of ?_ (Ng (Kj vN (ao P T T.length)) ahz),RdQ.of ?_ (Ng (Kj vS (a6 T T.length)) ahz),RdQ.of ?_ (Ng (Kj vM (aH P T T.length)) ahz),RdQ.of ?_ (Ng (fe (us.map (·.v)) vU) ahz),by simp[h.len],λi x v hi O=>?_⟩,k1⟩;. exact((h.blk.drew).set_ 2 (.int .u32 1)).set_ 3 (.int .i32 0)
  . exact dP (V (Kj vN (ao P T T.length)) ahz) (by rw[cZ (Nat.le_refl _)];omega)
  . exact dP (V (Kj vS (a6 T T.length)) ahz) (by rw[gu];omega)
  . exact dP (V (Kj vM (aH P T T.length)) ahz) (by rw[cY];omega)
  . have h1:=V (fe (us.map (·.v)) vU) ahz;refine ajQ ?_;intro e;exact h1
  . rw[List.getElem?_map]at O;cases hu:us[i]? with
    | none=>rw[hu]at O;cases O
    | some r=>rw[hu]at O;injection O with O;subst O;have MX:=h.up i x r hi hu;have Y:=V r aic;rw[MX]at Y;refine RdQ.of (dP Y (by have:=sf P x;omega)) (λg hg=>Ng r aic g ?_);rw[MX];exact hg
def jr(B:Nat->Prop)(w:World)(b:Nat)(P T:List Int)(hc:a5 P T=0)(h:gV B w b P T):E 133 #[↑b] w λe w'=>e= .returned ↑b/\dD (λi=>B i\/w.heap.size<=i) w' b P T/\aa [b] w w':=by
  have H:=h.low;obtain⟨AP,cP,AT,cT,hB,hP,hT,nP,nT,O,lT⟩:=h.ex;refine ajp ?_;intro k0 Of MG hf
  have Y:=qh (sW b 2 ↑b w (λw2=>dD (λi=>B i\/w.heap.size<=i) (dw b 2 w2) b P T/\aa [b] w (dw b 2 w2)) (hB.cell 2) (hB.cell 3) (hB.free 2) (hB.free 3)
    (hf.mono λe w2 ⟨he,vL,vU,vN,vS,vM,us,I⟩=>⟨he,⟨I.blk.cell 2,I.blk.cell 3,I.blk.free 2,I.blk.free 3⟩,(mg hc I Of MG nP nT H O lT).1.size ahz,k0.trans (mg hc I Of MG nP nT H O lT).2⟩))
  clear hf Of MG hB hP hT nP nT O lT k0 hc h H;go_enter func133,ntmps133;go_wp2_with fail;refine Y.o.mono ?_;rintro en w' ⟨rfl,w2,V,hw⟩;have HR:=qh (show dD (λi=>B i\/w.heap.size<=i) w' b P T/\aa [b] w w' by rw[hw];exact V);clear V hw;go_wp2;go_ret;exact⟨rfl,HR.o⟩
def xL(B:Nat->Prop)(w:World)(b:Nat)(P T:List Int)(hc:a5 P T=0)(i:Nat)(hi:i<T.length)(h:gV B w b P T)(x:Int)(hx:(ao P T T.length)[i]? =some x):E 100 #[↑b,J i] w λe w'=>e= returned (J x)/\dD (λi=>B i\/w.heap.size<=i) w' b P T/\aa [b] w w':=by have HF:=qh (jr B w b P T hc h);have HH:=qh (xz w b P T i true (decide_eq_true ahy) (h.tab hc));have HX:=qh hx;clear h hx;go_enter func100,ntmps100;go_wp2_with fail;refine LT HH.o ?_;go_wp2_with fail;refine HF.o.mono ?_;rintro en w1 ⟨rfl,H,t1⟩;have Np:=qh (And.intro H t1);clear t1;have V:=H.f;clear H;obtain⟨AP,cP,AT,cT,vU,vN,vS,vM,us,h1,h2,h3,I,h5,h6,h7,h8,h9⟩:=V.ex;have Y:(ao P T T.length).length=T.length:=cZ (Nat.le_refl _);obtain⟨AM,cM,rfl,_,_⟩:=cj I;obtain⟨b1,o1,hA,_,O⟩:=fZ I ahy;subst hA;have q1:=O i x HX.o;have c8:=h1.cell 6;rw[Y]at *;simp only[fg]at c8;clear V h1 h2 h3 I h5 h6 h7 h8 h9 O Y;go_wp2;go_ret;exact⟨rfl,Np.o⟩
end
section
open Go Go.RowKit
def zN{M:LkM n}{st:M.σ}(h:∀i<n,(M.sp st i).pc=0):M.view st=List.replicate n (0,false):=by
 apply List.ext_getElem?;intro j;rw[List.getElem?_replicate];split;.rename_i H;rw[jk H,ui (h j H)];unfold LkM.stt;rw[h j H];rfl
 .exact List.getElem?_eq_none (by simpa[LkM.view]using by omega)
def JK{mf:(P T:List Int)->Nat->Nat->Nat->Nat->Nat->MS T.length}(AW:Awk 19)(NW:Ae mf)(SE:∀P T gl lo pa bu k,a5 P T=0->1<=k/\k<=13->1<=gl/\gl<=5->1<=lo/\lo<=5->1<=pa/\pa<=4->(mf P T gl lo pa bu k).1.Seen/\∀i<T.length,((mf P T gl lo pa bu k).1.sp (mf P T gl lo pa bu k).2 i).pc=0)(w:World)(vP:Value)(AT:Option Addr)(cT:Nat)(P T:List Int)(hP:RdL w vP 1 encI P)(hT:RdL w (.slice AT T.length cT) 1 encI T)(a0 a1 a2 a3:Nat)(h0:a0<256)(h1:a1<256)(h2:a2<256)(h3:a3<256)(hs:j6 P T 8=true)(v:Value)(ls:List (Int×Int))(h:RdL w v 2 re ls)(hm:ls.length<=150):E 4 #[agg #[vP,.slice AT T.length cT],agg #[.int .u8 a0,.int .u8 a1,.int .u8 a2,.int .u8 a3],v] w λe w'=>e= returned (bool true)/\Below w.heap.size w w':=by
  obtain⟨A,cap,rfl,l1,l2,V⟩:=h;have HR:=qh V;have Pe:a5 P T=0/\(T.length:Int)<=8:=of_decide_eq_true hs;have ax:T.length<=8:=by omega
  obtain⟨w0,E'⟩:=LE ((w.alloc (cells #[vP,.slice AT T.length cT] 24)).alloc (cells #[.int .u8 a0,.int .u8 a1,.int .u8 a2,.int .u8 a3] 25));have KZ:=qh (show Below w.heap.size w w0 from by rw[E'];exact((Below.refl w.heap.size w).alloc (Nat.le_refl _) _).alloc ahz _);have hX:=show Blk w0 w.heap.size 24 #[vP,.slice AT T.length cT]from by rw[E'];exact(Blk.new w 24 #[vP,.slice AT T.length cT]).alloc _
  have Og:=show Blk w0 (w.heap.size+1) 25 #[.int .u8 a0,.int .u8 a1,.int .u8 a2,.int .u8 a3]from by rw[E'];exact Blk.new' _ 25 #[.int .u8 a0,.int .u8 a1,.int .u8 a2,.int .u8 a3] ahz
  have TF:=CT w0 vP _ P T (hP.below KZ.o (Nat.le_refl _)) (hT.below KZ.o (Nat.le_refl _)) 8;rw[hs]at TF;have VF:=qh TF
  have HC:=qh (λW (b:Below w0.heap.size w0 W)=>show W.cell? w.heap.size=some vP/\Z W w.heap.size 1 (.slice AT T.length cT)/\Z W (w.heap.size+1) 0 (.int .u8 a0)/\Z W (w.heap.size+1) 1 (.int .u8 a1)/\Z W (w.heap.size+1) 2 (.int .u8 a2)/\W.cell? ⟨w.heap.size+1,3,none⟩=some (.int .u8 a3)from
    ⟨(hX.below b hX.lt).cell 0,(hX.below b hX.lt).cell 1,(Og.below b Og.lt).cell 0,(Og.below b Og.lt).cell 1,(Og.below b Og.lt).cell 2,(Og.below b Og.lt).cell 3⟩)
  have Ts:=qh (λW (b:Below w0.heap.size w0 W)=>NW W vP AT cT P T (1+a3%13) (1+a0%5) (1+a1%5) (1+a2/4%4) (a2%4) (hP.below (KZ.o.trans (b.mono KZ.o.size)) (Nat.le_refl _)) (hT.below (KZ.o.trans (b.mono KZ.o.size)) (Nat.le_refl _)) Pe.1 ahy ahy ahy ahy ahy);have L3:=qh (λW=>GJ W a0 a1 a2 a3 h0 h1 h2 h3);have VC:=qh (SE P T (1+a0%5) (1+a1%5) (1+a2/4%4) (a2%4) (1+a3%13) Pe.1 ahy ahy ahy ahy);obtain⟨ms,WS⟩:=LE (mf P T (1+a0%5) (1+a1%5) (1+a2/4%4) (a2%4) (1+a3%13));rw[<-WS]at Ts VC;unfold spV at L3;have XV:=qh AW;clear V hP hT hs Pe TF AW NW SE hX Og WS;go_enter func4,ntmps4;go_upto_region 1 with fail;rw[<-E'];clear E';obtain⟨f0,f1,f2,f3,f4,f5⟩:=HC.o _ (Below.refl _ _);go_wp2_with fail;refine Pi VF.o λw1 b1=>?_;have K:=qh (b1.o.drew);have Kl:=b1.o.size;clear f0 f1 f2 f3 f4 f5 VF;obtain⟨f0,f1,f2,f3,f4,f5⟩:=HC.o _ K.o;go_wp2_with fail
  go_region_held3 (λW=>W.cell? w.heap.size=some vP/\Z W w.heap.size 1 (.slice AT T.length cT)/\Z W (w.heap.size+1) 0 (.int .u8 a0)/\Z W (w.heap.size+1) 1 (.int .u8 a1)/\Z W (w.heap.size+1) 2 (.int .u8 a2)/\Z W (w.heap.size+1) 3 (.int .u8 a3))
    (first|with_reducible exact HC.o _ K.o|with_reducible exact HC.o _ K2.o.1)
    (first
      | (go_at_call 21;go_loud (refine Pi (L3.o _) λw2 b2=>?_);have K:=qh (K.o.trans (b2.o.mono K.o.size)))
      | (go_at_call 20;go_loud (refine(Ts.o _ K.o).mono ?_);rintro en w3 ⟨X,lo,rfl,k3⟩;have K2:=qh (And.intro (K.o.trans (k3.2.2.2.2.2.2.mono K.o.size)) (And.intro K.o.size k3));clear k3))
  obtain⟨f0,f1,f2,f3,f4,f5⟩:=HC.o _ K2.o.1;have H:=qh K2.o.2.2.1;have HV:=VC;unfold lkP;go_wp2_with fail;refine(IL w3 T.length H.o.n32.1 H.o.n32.2).mono ?_;rintro en w4 ⟨sb,ab,rfl,Xb,Ls,Ky,b4⟩;have Lc:=K2.o.1.size
  have H0:=qh (show WtS X w0 w4 sb ab ms.2 0 from by
    obtain⟨I,KR,G,mP,Nb,KF,Xm,OP,Lf⟩:=K2.o;refine⟨Nb.below G b4,mP,?_,I.trans (b4.mono I.size),?_⟩;. rw[zN HV.o.2];exact Xb
    . have:=Nb.hw.2.2;omega)
  have Sb:=qh (show ∀x∈ms.1.fp X.b,w0.heap.size<=x from λx hx=>by have:=K2.o.2.2.2.2.2.1 x hx;have:=K2.o.2.1;omega);have Xk:w.heap.size<=w0.heap.size:=KZ.o.size;clear Xb Ls Ky b4 f0 f1 f2 f3 f4 f5 Ts L3 K;go_wp2;go_loopw [10,11,12,13,14,15,16,17] (λi _ _ _ _ _ _ _ wr=>∃(k:Nat) (x:ms.1.σ),i= J k/\k<=ls.length/\WtS X w0 wr sb ab x k) (λi _ _ _ _ _ _ _ _=>ls.length-(intOf i).toNat);case atStart=>exact⟨0,ms.2,rfl,by omega,H0.o⟩
  case round=>
    clear H0;obtain⟨k,x,rfl,hk,hW⟩:=hrel;obtain⟨wo,rfl⟩:∃wo:World,wo=wr:=⟨_,rfl⟩;have Y:=qh hW;clear hW;by_cases C':k<ls.length
    . obtain⟨bl,off,rfl,Lf,hc⟩:=HR.o ahy;obtain⟨⟨t,kd⟩,hx⟩:=ai C';have Vm:Kq (∀W,Below w0.heap.size w0 W->Z W bl (off+k*2) (J t)/\Z W bl (off+k*2+1) (J kd)):=qh λW hW=>by have Wn:=KZ.o.trans (hW.mono Xk);exact⟨(Wn.cell (p:=⟨bl,off+k*2+0,none⟩) Lf).trans (hc k _ hx 0 _ rfl),(Wn.cell (p:=⟨bl,off+k*2+1,none⟩) Lf).trans (hc k _ hx 1 _ rfl)⟩
      clear hc hx;have hN:k<lkB:=(by unfold lkB;omega);have O6:k+1<lkB:=(by unfold lkB;omega);have HP:=qh (And.intro (EE H.o HV.o.1 Y.o.ok hN O6 (t,kd)) (H.o.pick Y.o.ok hN (t,kd)));have HD:=qh (λW (h:bI X W x)=>doW H.o h Y.o.ok hN (t,kd));obtain⟨⟨⟨ek,et,er,ec⟩,x'⟩,PR⟩:∃q,q=ms.1.pick x (t,kd):=⟨_,rfl⟩;rw[<-PR]at HP HD;unfold evV at HD;simp only at HP HD;clear PR;have Z3:=(H.o.ais _ _ _ _ _ _ Y.o.is.is).ops;have Kp:=Y.o.is.hw.2.2;go_wp2_with fail;refine LT (Gv H.o Y.o.is) ?_;go_wp2_with fail;refine(Db H.o Y.o.is).mono ?_;rintro en w2 ⟨wv,rfl,Qy,UZ,b2⟩;have K3:=qh (And.intro (Y.o.is.below H.o b2) (And.intro (Y.o.sh.below b2) (And.intro (Y.o.bel.trans (b2.mono Y.o.bel.size)) (And.intro Qy UZ))));have Ko:=b2.size;clear Qy UZ b2;obtain⟨c0,c1⟩:=Vm.o _ K3.o.2.2.1;go_wp2_with fail;refine(HD.o _ K3.o.1).mono ?_;rintro en w5 ⟨rfl,k5,t5⟩;have NF:=t5.size
      have H6:=qh (show WtR X w0 (w5.alloc (cells #[J ek,J et,.bool er,J ec] 55)) sb ab w5.heap.size x' (k+1) (ms.1.view x) ⟨ek,et,er,ec⟩ wv (ms.1.ar x).W from by
        obtain⟨ki,ks,kb,kd,ko⟩:=K3.o;have al:=Y.o.lo;have Ky:=ks.row.lt;have Ua:=ki.lo H.o;have hh:=Y.o.is.hw.2.2;have b6:=(Below.refl w5.heap.size w5).alloc (Nat.le_refl _) (cells #[J ek,J et,.bool er,J ec] 55);have s5:=ks.far t5 (λm=>by have:=Ua _ m;omega) (λm=>by have:=Ua _ m;omega);have d5:=kd.farT t5 (λq hq m=>by have:=ko q hq;have:=Ua _ m;omega);refine⟨k5.below H.o b6,HP.o.2.1,s5.below b6,(kb.trans (t5.below (λi hi=>Sb.o i hi) kb.size)).trans (b6.mono (by have:=kb.size;omega)),Blk.new _ _ _,d5.below b6 (Nat.le_refl _),λq hq e=>?_,by omega,al⟩;have:=ko q hq;have:=Y.o.sh.row.lt
        omega)
      have HQ:=qh (And.intro HP.o.1.1 (And.intro HP.o.1.2 (And.intro HP.o.2.2.1 HP.o.2.2.2)));obtain⟨w6,UX⟩:=LE (w5.alloc (cells #[J ek,J et,.bool er,J ec] 55));rw[<-UX]at H6
      have MR:=qh (λW L' (h:WtR X w0 W sb ab w5.heap.size x' (k+1) L' ⟨ek,et,er,ec⟩ wv (ms.1.ar x).W)=>show W.cell? w5.heap.size=some (J ek)/\Z W w5.heap.size 1 (J et)/\Z W w5.heap.size 2 (.bool er)/\Z W w5.heap.size 3 (J ec)/\W.cell? ⟨bl,off+k*2,none⟩=some (J t)from
        ⟨h.evc.1,h.evc.2.1,h.evc.2.2.1,h.evc.2.2.2,(Vm.o _ h.bel).1⟩)
      have VO:=qh UX;clear k5 t5 c0 c1 HP UX;obtain⟨o1,Qh⟩:∃o:Int,o=((ms.1.ar x).ops:Int):=⟨_,rfl⟩;obtain⟨o2,Qi⟩:∃o:Int,o=((ms.1.ar x').ops:Int):=⟨_,rfl⟩;have xo:IntKind.i64.wrap (o1+1)=o1+1:=IntWalk.i64_in _ ahy;have t6:decide (o2>o1+1)=false:=decide_eq_false (by have:=HQ.o.2.2.1;omega);have Tn:=qh (JS (H6.o.below H.o (Below.refl _ _).drew).sh HQ.o.1);unfold evV at Tn;have PE:=qh (λW L' (h:WtR X w0 W sb ab w5.heap.size x' (k+1) L' ⟨ek,et,er,ec⟩ wv (ms.1.ar x).W)=>Gv H.o h.is);unfold lkP at PE;rw[<-Qi]at PE;have K6:=qh (H6.o.below H.o (Below.refl _ _).drew);rw[<-Qh];have HO:=qh (And.intro Qh Qi);clear Qh Qi Z3
      have HZ:Kq (∃z r,(∀gs,WtR X w0 gs sb ab w5.heap.size x' (k+1) (ms.1.view x') ⟨ek,et,er,ec⟩ wv (ms.1.ar x).W->E 28 #[↑X.wb,J t] gs λe w'=>e= returned (tuple #[J z,.bool r])/\Below gs.heap.size gs w')/\(∀gs,WtR X w0 gs sb ab w5.heap.size x' (k+1) (ms.1.view x') ⟨ek,et,er,ec⟩ wv (ms.1.ar x).W->E 29 #[↑sb,J t] gs λe w'=>e= returned (tuple #[J z,.bool r])/\Below gs.heap.size gs w')):=qh (by
        by_cases hi:0<=t/\t<T.length;. obtain⟨j,rfl⟩:=Int.eq_ofNat_of_zero_le hi.1;have hj:j<T.length:=(by omega);exact⟨_,_,λgs h=>kZ H.o h.is j hj,λgs h=>EQ h.sh (jk hj)⟩
        . exact⟨0,false,λgs h=>xV H.o h.is t hi,λgs h=>CX h.sh t (by simpa[LkM.view]using hi)⟩)
      obtain⟨z,r,hz⟩:=HZ.o;replace HZ:=qh hz;clear hz;obtain⟨c0,c1,c2,c3,c4⟩:=MR.o _ _ H6.o;by_cases ad:ek=0
      . subst ad;go_wp2_with fail;rw[<-VO.o];refine wp_region_held_drew (S:=(λW=>W.cell? w5.heap.size=some (J 0)/\Z W w5.heap.size 1 (J et)/\Z W w5.heap.size 2 (.bool er)/\Z W w5.heap.size 3 (J ec)/\Z W bl (off+k*2) (J t))) ahB (by exact MR.o _ _ K6.o) (λhHeld=>?_);refine tk 0 ?_;refine tk 1 ?_;refine wpAnyH_ready (rs:=[2]) ahB ahz ?_;refine AllReadyH.cons rfl (λK hK=>?_) AllReadyH.nil;go_simp;go_at_call 26;refine Pi Tn.o λw7 s7=>?_;have K7:=qh (K6.o.act H.o s7.o.2 s7.o.1);refine hK.out _ _ ?_ (λhHeld=>?_);. exact MR.o _ _ K7.o
        clear hK K;try simp only[Act.put,List.setIfInBounds_toArray,List.set_cons_zero,List.set_cons_succ,List.getElem_toArray,List.getElem_cons_zero,List.getElem_cons_succ]
        refine tk 3 ?_;refine tk 4 ?_;refine tk 5 ?_;refine tk 7 ?_;refine tk 8 ?_;refine wpAnyH_ready (rs:=[6]) ahB ahz ?_;refine AllReadyH.cons rfl (λK hK=>?_) AllReadyH.nil;go_simp;go_at_call 23;refine LT (PE.o _ _ K7.o) ?_;refine hK.out _ _ ?_ (λhHeld=>?_);. exact MR.o _ _ K7.o
        clear hK K;try simp only[Act.put,List.setIfInBounds_toArray,List.set_cons_zero,List.set_cons_succ,List.getElem_toArray,List.getElem_cons_zero,List.getElem_cons_succ]
        refine tk 9 ?_;refine ajL ?_;refine akm ?_;refine tk 23 ?_;refine tk 24 ?_;refine tk 25 ?_;refine wpAnyH_done ahB ?_ _;clear c0 c1 c2 c3 c4;obtain⟨c0,c1,c2,c3,c4⟩:=MR.o _ _ K7.o;have K9:=qh K7.o;obtain⟨w9,RM⟩:=LE w7;rw[<-RM]at K9 ⊢;clear RM;obtain⟨c0,c1,c2,c3,c4⟩:=MR.o _ _ K9.o;go_wp2_with fail;refine Pi (HZ.o.1 _ K9.o) λwa ba=>?_;have KA:=qh (K9.o.below H.o ba.o);clear c0 c1 c2 c3 c4;obtain⟨c0,c1,c2,c3,c4⟩:=MR.o _ _ KA.o;go_wp2_with fail;refine Pi (HZ.o.2 _ KA.o) λwb bb=>?_;have O:=qh (KA.o.below H.o bb.o);clear c0 c1 c2 c3 c4;go_wp2;go_roundw;case rel=>exact⟨k+1,x',by go_num,by omega,⟨O.o.is,O.o.ok,O.o.sh,O.o.bel,O.o.lo⟩⟩
        case measure=>simp[intOf];omega
      . have Qq:et=t:=HQ.o.2.1 ad;subst Qq;have u0:(ek !=0)=true:=(by simpa using ad);go_wp2_with fail;rw[<-VO.o]
        go_region_held3 (λW=>W.cell? w5.heap.size=some (J ek)/\Z W w5.heap.size 1 (J et)/\Z W w5.heap.size 2 (.bool er)/\Z W w5.heap.size 3 (J ec)/\Z W bl (off+k*2) (J et))
          (first|with_reducible exact MR.o _ _ K6.o|with_reducible exact MR.o _ _ K7.o)
          (first
            | (go_at_call 26;go_loud (refine Pi Tn.o λw7 s7=>?_);have K7:=qh (K6.o.act H.o s7.o.2 s7.o.1))
            | (go_at_call 23;go_loud (refine LT (PE.o _ _ K7.o) ?_)))
        all_goals
          clear c0 c1 c2 c3 c4;obtain⟨c0,c1,c2,c3,c4⟩:=MR.o _ _ K7.o;by_cases h5:ek=5
          . subst h5;have TX:=HQ.o.2.2.2 (.inl rfl);have eo:o2=o1:=(by rw[HO.o.1,HO.o.2,TX]);subst eo;go_wp2_with fail;refine LT (PE.o _ _ K7.o) ?_;go_wp2_with fail;refine(Db H.o K7.o.is).mono ?_;rintro en w8 ⟨v8,rfl,d8,-,b8⟩;rw[TX]at d8;have K8:=qh (And.intro (K7.o.below H.o b8) d8);clear b8 d8 TX;have QM:=qh (m8 _ v8 wv _ _ K8.o.2 K8.o.1.wd);rw[decide_eq_true rfl]at QM;go_wp2_with fail;refine Pi QM.o λw9 q9=>?_;have K9:=qh (K8.o.1.below H.o (q9.o.below _));clear QM;obtain⟨c0,c1,c2,c3,c4⟩:=MR.o _ _ K9.o;go_wp2_with fail;refine Pi (HZ.o.1 _ K9.o) λwa ba=>?_;have KA:=qh (K9.o.below H.o ba.o);clear c0 c1 c2 c3 c4;obtain⟨c0,c1,c2,c3,c4⟩:=MR.o _ _ KA.o;go_wp2_with fail;refine Pi (HZ.o.2 _ KA.o) λwb bb=>?_;have O:=qh (KA.o.below H.o bb.o);clear c0 c1 c2 c3 c4;go_wp2;go_roundw;case rel=>exact⟨k+1,x',by go_num,by omega,⟨O.o.is,O.o.ok,O.o.sh,O.o.bel,O.o.lo⟩⟩
            case measure=>simp[intOf];omega
          . have u5:(ek==5)=false:=(by simpa using h5);have K9:=qh K7.o;obtain⟨w9,RM⟩:=LE w7;rw[<-RM]at K9 ⊢;clear h5 RM;obtain⟨c0,c1,c2,c3,c4⟩:=MR.o _ _ K9.o;go_wp2_with fail;refine Pi (HZ.o.1 _ K9.o) λwa ba=>?_;have KA:=qh (K9.o.below H.o ba.o);clear c0 c1 c2 c3 c4;obtain⟨c0,c1,c2,c3,c4⟩:=MR.o _ _ KA.o;go_wp2_with fail;refine Pi (HZ.o.2 _ KA.o) λwb bb=>?_;have O:=qh (KA.o.below H.o bb.o);clear c0 c1 c2 c3 c4;go_wp2;go_roundw;case rel=>exact⟨k+1,x',by go_num,by omega,⟨O.o.is,O.o.ok,O.o.sh,O.o.bel,O.o.lo⟩⟩
            case measure=>simp[intOf];omega
    . obtain rfl:k=ls.length:=by omega
      go_wp2_with fail;refine Pi (XV.o _) λw2 b2=>?_;have HF:=qh (KZ.o.trans ((Y.o.bel.trans (b2.o.mono Y.o.bel.size)).mono KZ.o.size));go_wp2;go_ret;exact⟨rfl,HF.o⟩
end
section
open Go.RowKit
def iJ.upAt(h:iJ w b P T)(Y:T[k]? =some x):∃b1 o1 H A c,Z w b 5 (slice (some ⟨b1,o1,none⟩) T.length H)/\Z w b1 (o1+k) (.slice A (upL P x).length c)/\RdL w (.slice A (upL P x).length c) 1 encI (upL P x)/\T.length<=H/\b1<w.heap.size:=by obtain⟨AP,cP,AT,cT,vU,vN,vS,vM,us,h1,h2,h3,h4,h5,h6,h7,h8,h9⟩:=h.ex;have hk:=(List.getElem?_eq_some_iff.1 Y).1;obtain⟨v,O⟩:=ai (show k<us.length by omega);have V:=h9 k x v Y O;obtain⟨A,c,rfl,_,_⟩:=cj V;obtain⟨AU,cU,rfl,m1,m2,m3⟩:=h7;obtain⟨b1,o1,rfl,I,hc⟩:=m3 ahy;have c5:=h1.cell 5;simp only[fg,h8]at c5;exact⟨b1,o1,cU,A,c,c5,by simpa using hc k _ O 0 _ rfl,V,by omega,I⟩
end
section
open Go.RowKit
def vW(w:World)(b:Nat)(P T:List Int)(R:World->Prop)(H:∀w1,R w1->iJ w1 b P T)(I:E 133 #[↑b] w λe w'=>e= .returned ↑b/\R w'):E 137 #[↑b] w λe w'=>e= returned (J ((ac P).length:Nat))/\R w':=by have O:=qh I;have Y:=qh H;clear I H;go_enter func137,ntmps137;go_wp2_with fail;refine Pi O.o λw' V=>?_;have Np:=qh V.o;obtain⟨AP,cP,AT,cT,vU,vN,vS,vM,us,h1,h2,h3,h4,h5,h,h7,h8,h9⟩:=(Y.o _ V.o).ex;obtain⟨AM,cM,rfl,_,_⟩:=cj h;have c8:=h1.cell 8;simp only[fg,cY]at c8;clear h1 h2 h3 h4 h5 h h7 h8 h9;go_wp2;go_ret;exact⟨rfl,Np.o⟩
def Cl(w:World)(b:Nat)(P T:List Int)(hc:a5 P T=0)(R:World->Prop)(I:∀w1,R w1->iJ w1 b P T)(hf:E 133 #[↑b] w λe w'=>e= .returned ↑b/\R w')(O:(ac P)[k]? =some x):E 138 #[↑b,J k] w λe w'=>e= returned (J ((T.count x:Nat):Int))/\R w':=by
  have Y:=qh (vW w b P T R I hf);have Mm:=qh I;have LC:(ac P).length<=32:=by have h1:=(bj (aR hc).1).2.1;have:=a8 P P.length;show(am P P.length).length<=_;omega
  have LH:=(List.getElem?_eq_some_iff.1 O).1
  have HX:Kq ((aH P T T.length)[k]? =some ((T.count x:Nat):Int)):=qh (by
    unfold aH
    rw[List.take_length,List.getElem?_map,O];rfl)
  obtain⟨L,H⟩:=LE ((ac P).length);rw[<-H]at Y LC LH;have HL:=qh H;clear I hf O H hc;go_enter func138,ntmps138;go_wp2_with fail;refine Pi Y.o λw1 V=>?_;have Np:=qh V.o;have HF:=qh (eZ w1 b P T (Mm.o _ V.o));go_wp2_with fail;refine LT HF.o ?_;obtain⟨AP,cP,AT,cT,vU,vN,vS,vM,us,h1,h2,h3,h4,h5,h,h7,h8,h9⟩:=(Mm.o _ Np.o).ex;have hl:(aH P T T.length).length=L:=by rw[cY];exact HL.o.symm
  obtain⟨AM,cM,rfl,_,_⟩:=cj h;obtain⟨b1,o1,hA,_,LJ⟩:=fZ h ahy;subst hA;have q1:=LJ k _ HX.o;have c8:=h1.cell 8;rw[hl]at *;simp only[fg]at c8;clear h1 h2 h3 h4 h5 h h7 h8 h9 LJ hl;go_wp2;go_ret;exact⟨rfl,Np.o⟩
def Ck(B:Nat->Prop)(w:World)(b:Nat)(P T:List Int)(hc:a5 P T=0)(h:gV B w b P T)(H:(ac P)[k]? =some x):E 138 #[↑b,J k] w λe w'=>e= returned (J ((T.count x:Nat):Int))/\dD (λi=>B i\/w.heap.size<=i) w' b P T/\aa [b] w w':=
  Cl w b P T hc (λw'=>dD (λi=>B i\/w.heap.size<=i) w' b P T/\aa [b] w w') (λ_ h=>h.1.f) (jr B w b P T hc h) H
def Cj(w:World)(b:Nat)(P T:List Int)(h:iJ w b P T)(H:(ac P)[k]? =some x):E 138 #[↑b,J k] w λe w'=>e= returned (J ((T.count x:Nat):Int))/\w=w':=
  Cl w b P T h.ok (λw'=>w=w') (λ_ e=>e ▸ h) (eZ w b P T h) H
def Fi(w:World)(b:Nat)(P T:List Int)(i:Nat)(hi:i<T.length)(h:iJ w b P T):E 143 #[↑b,J i] w λe w'=>e= returned (J (cQ T i))/\w=w':=by have V:=qh (eZ w b P T h);have Y:=qh (xz w b P T i true (decide_eq_true ahy) h.tab);have HX:Kq ((a6 T T.length)[i]? =some (cQ T i)):=qh (by unfold a6;simp[hi]);have Np:=qh h;clear h;go_enter func143,ntmps143;go_wp2_with fail;refine LT Y.o ?_;go_wp2_with fail;refine LT V.o ?_;obtain⟨AP,cP,AT,cT,vU,vN,vS,vM,us,h1,h2,h3,h4,H,h6,h7,h8,h9⟩:=Np.o.ex;have O:(a6 T T.length).length=T.length:=gu _ _;obtain⟨AM,cM,rfl,_,_⟩:=cj H;obtain⟨b1,o1,hA,_,I⟩:=fZ H ahy;subst hA;have q1:=I i _ HX.o;have c8:=h1.cell 7;rw[O]at *;simp only[fg]at c8;clear h1 h2 h3 h4 H h6 h7 h8 h9 I O;go_wp2;go_ret;exact⟨rfl,rfl⟩
def Kg(w:World)(b:Nat)(P T:List Int)(k:Nat)(x:Int)(H:T[k]? =some x)(h:iJ w b P T):E 142 #[↑b,J k] w λe w'=>∃v,e= returned v/\w'.ownsRow w.heap.size 3 1 v (upL P x).length ((upL P x).flatMap encI)/\Below w.heap.size w w':=by
  have hk:=(List.getElem?_eq_some_iff.1 H).1;have Y:=qh (xz w b P T k true (decide_eq_true ahy) h.tab);have O:=qh (eZ w b P T h);have ab:(upL P x).length<=32:=by have h1:=(bj (aR h.ok).1).2.1;have:=sf P x;omega
  obtain⟨b1,o1,cu,A,c,c5,ad,V,Wz,KI⟩:=h.upAt H;have HR:=qh V;clear h H V;go_enter func142,ntmps142;go_wp2_with fail;refine LT Y.o ?_;go_wp2_with fail;refine LT O.o ?_;go_wp2_with fail;refine(mx _ _ (upL P x) HR.o ahy).mono ?_;rintro en w2 ⟨v2,rfl,o2,b2⟩;have I:=qh (And.intro o2 b2);clear o2 b2;go_wp2;go_ret;exact⟨_,rfl,I.o.1,I.o.2⟩
def RdQ.lt{α:Type}{enc:α->List Value}{l:List α}(h:RdQ B w v sz enc l):RdQ (λi=>B i/\i<w.heap.size) w v sz enc l:=⟨h.1,λH g hg=>⟨h.2 H g hg,j4 h.1 H hg⟩⟩
def dD.lt(h:dD B w b P T):dD (λi=>B i/\i<w.heap.size) w b P T:=by obtain⟨H,cP,I,O,vU,vN,vS,vM,us,h1,V,Y,h4,h5,h6,h7,h8,h9⟩:=h.ex;exact⟨h.ok,⟨h.low,h1.lt⟩,H,cP,I,O,vU,vN,vS,vM,us,h1,V.lt,Y.lt,h4.lt,h5.lt,h6.lt,h7.lt,h8,λi x v a c=>(h9 i x v a c).lt⟩
end
end Go.Proofs.YtglokdbiggbkjaaGreat
