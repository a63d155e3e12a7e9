/- Joined texts. -/
import Derived.Deep.RegionLaw
import Derived.Deep.AppendLies
import Derived.Deep.DeepCutAuto
import Derived.Test.YtglokdbiggbkjaaGreatMgWholeRefuses0
import Derived.Test.YtglokdbiggbkjaaGreatMgWholeRefuses1
import Derived.Test.YtglokdbiggbkjaaGreatMgWholeRefuses3
import Derived.Test.YtglokdbiggbkjaaGreatMgWholeRefuses5
set_option linter.unusedVariables false
set_option linter.unusedSimpArgs false
set_option linter.defProp false
set_option maxRecDepth 100000
set_option maxHeartbeats 16000000
open Go.Proofs.Tryz
namespace Go.Proofs.YtglokdbiggbkjaaGreat
open Go.IntKind(i64)
open Go.Value(int bool slice agg tuple pointer)
open Go.Ending(returned)
open Go.Obj(cells)
variable{x dl:Int}{w0 w w':World}{b i n' j k lo hi l a q u:Nat}{v' vL vN vS v:Value}{xs':List Value}{P T:List Int}
section
open Go.RowKit
variable{α:Type}
def fe(vP vT:Value)(d m:Int)(vU vN vS vM:Value):Array Value:=#[vP,vT,.int .u32 d,.int .i32 m,.int .u32 0,vU,vN,vS,vM]
def aq(v:Value)(l:List Int):eK:=⟨3,v,l.length,l.flatMap encI⟩
def eZ(us:List Value)(v:Value):eK:=⟨22,v,us.length,us⟩
structure js(w0 w:World)(b:Nat)(vP vT:Value)(P T:List Int)(vL vU vN vS vM:Value)(us:List eK)(k:Nat):Prop where
 blk:Blk w b 213 (fe vP vT 0 1 vU vN vS vM)
 rows:gb w w0.heap.size b ([aq vL (ac P),aq vM (aH P T k),aq vN (ao P T k),aq vS (aZ T k),eZ (us.map (·.v)) vU]++us)
 len:us.length=k
 up:∀(i:Nat) (x:Int) (r:eK),T[i]? =some x->us[i]? =some r->r=aq r.v (upL P x)
 bel:aa [b] w0 w
def uS(P T:List Int):(aH P T 0).flatMap encI=(List.range (ac P).length).map λ_=>Value.int .i64 0:=by
 rw[iJ];unfold aH;rw[List.map_map];refine List.ext_getElem? λi=>?_;simp only[List.getElem?_map,Function.comp_def];by_cases h:i<(ac P).length;.simp[h]
 .simp[h]
def gb.single(w:World)(B b:Nat)(r:eK)(h:w.ownsRow B r.e 1 r.v r.n r.xs)(I:r.v.ownBlock≠some b):gb w B b [r]:=by
 refine⟨by simpa using h,λi j x y hi H O=>?_,by simpa using I⟩;have V:i=0:=by have:=(List.getElem?_eq_some_iff.1 hi).1;simpa using this
 have Y:j=0:=by have:=(List.getElem?_eq_some_iff.1 H).1;simpa using this
 omega
structure eD(w0 w:World)(b:Nat)(cs:Array Value)(l:List eK):Prop where
 blk:Blk w b 213 cs
 rows:gb w w0.heap.size b l
 bel:aa [b] w0 w
section
variable{cs:Array Value}{l:List eK}
def eD.below(h:eD w0 w b cs l)(k:Below w.heap.size w w'):eD w0 w' b cs l:=⟨h.blk.below k h.blk.lt,h.rows.below k,h.bel.trans (aa.of_below k)⟩
def mq{row:Option Nat}(h:aa [b] w0 w)(k:w.grownBy w' row)(V:∀g,row=some g->w0.heap.size<=g):aa [b] w0 w':=by
 cases row with
 |none=>exact h.trans ⟨k.os,k.tape,k.output,k.size,λi hi _=>k.block i hi ahF⟩
 |some g=>
  have h1:aa [b,g] w0 w':=(h.mono ahF).trans ((aa.grown k).mono ahF)
  exact h1.fresh (by
   intro i hi;simp only[List.mem_cons,List.not_mem_nil,or_false]at hi;rcases hi with rfl|rfl
   .exact .inl ahF
   .exact .inr (V _ rfl))
def eD.app(h:eD w0 w b cs l){r:eK}(hi:l[i]? =some r)(o:Obj)(hg:(w.alloc o).grownBy w' r.v.ownBlock)(Y:w'.ownsRow w0.heap.size r.e 1 v' n' xs')(LB:v'.ownBlock=r.v.ownBlock\/v'.ownBlock=some (w.heap.size+1))(c:Nat):eD w0 (w'.setCell ⟨b,c,none⟩ v') b (cs.setIfInBounds c v') (l.set i ⟨r.e,v',n',xs'⟩):=by
  have V:Below w.heap.size w (w.alloc o):=(Below.refl _ _).alloc (Nat.le_refl _) o;have h1:=h.below V;have O:(w.alloc o).heap.size=w.heap.size+1:=by simp
  have I:aa [b] w' (w'.setCell ⟨b,c,none⟩ v'):=aa.setCell (aa.refl [b] w') (.inl ahF) _;have H:=List.mem_of_getElem? hi;refine⟨?_,(h1.rows.app hi h1.blk.lt hg Y (LB.imp id λe=>⟨_,Nat.le_of_eq O,e⟩)).turn I,(mq h1.bel hg (λg e=>((h1.rows.own r H).lt g e).1)).trans I⟩;exact(h1.blk.grown hg (λe=>h.rows.nb r H e.symm)).set_ c v'
def eD.put(h:eD w0 w b cs l){r:eK}(hi:l[i]? =some r){g:Nat}(hg:r.v.ownBlock=some g)(u:Value)(Y:(w.setCell ⟨g,j,none⟩ u).ownsRow w0.heap.size r.e 1 r.v r.n xs'):eD w0 (w.setCell ⟨g,j,none⟩ u) b cs (l.set i ⟨r.e,r.v,r.n,xs'⟩):=by
  have H:w.grownBy (w.setCell ⟨g,j,none⟩ u) r.v.ownBlock:=by rw[hg];exact yc (uG _ _) j u
  have I:=List.mem_of_getElem? hi;refine⟨h.blk.grown H (λe=>h.rows.nb r I e.symm),h.rows.app hi h.blk.lt H Y (.inl rfl),mq h.bel H (λg e=>((h.rows.own r I).lt g e).1)⟩
def eD.grow(h:eD w0 w b cs l){r:eK}(hi:l[i]? =some r)(o:Obj)(hg:(w.alloc o).grownBy w' r.v.ownBlock)(Y:w'.ownsRow w0.heap.size r.e 1 v' n' xs')(V:v'.ownBlock=r.v.ownBlock\/v'.ownBlock=some (w.heap.size+1)):eD w0 w' b cs (l.set i ⟨r.e,v',n',xs'⟩):=by
  have O:Below w.heap.size w (w.alloc o):=(Below.refl _ _).alloc (Nat.le_refl _) o;have h1:=h.below O;have I:(w.alloc o).heap.size=w.heap.size+1:=by simp
  have H:=List.mem_of_getElem? hi;exact⟨h1.blk.grown hg (λe=>h.rows.nb r H e.symm),h1.rows.app hi h1.blk.lt hg Y (V.imp id λe=>⟨_,Nat.le_of_eq I,e⟩),mq h1.bel hg (λg e=>((h1.rows.own r H).lt g e).1)⟩
def eD.push(h:eD w0 w b cs l)(e:TypeId):eD w0 w b cs (l++[⟨e,.slice none 0 0,0,[]⟩]):=⟨h.blk,h.rows.push e,h.bel⟩
end
def js.g{V Y:Value}{O I:Value}{H:List eK}(h:js w0 w b V Y P T vL O vN vS I H k):eD w0 w b (fe V Y 0 1 O vN vS I) ([aq vL (ac P),aq I (aH P T k),aq vN (ao P T k),aq vS (aZ T k),eZ (H.map (·.v)) O]++H):=⟨h.blk,h.rows,h.bel⟩
def dm(h:k<=T.length):(ao P T k).length=k:=by unfold ao;simp;omega
def gk(T:List Int)(k:Nat):(aZ T k).length=k:=by simp[aZ]
def cQ(P T:List Int)(k:Nat):(aH P T k).length=(ac P).length:=by simp[aH]
def vc(h:T[k]? =some x):ao P T (k+1)=ao P T k++[fI (ac P) x]:=by unfold ao;rw[cj h,List.map_append];rfl
def mR{l:List Int}{nd:Nat}(hm:x∈l)(h:fI l x=nd):l[nd]? =some x:=by
 unfold fI at h;rw[if_pos hm]at h;have e:l.idxOf x=nd:=by omega
 have H:=List.idxOf_lt_length_of_mem hm;rw[<-e,List.getElem?_eq_getElem H,List.getElem_idxOf H]
def pX{nd:Nat}(h:(ac P)[nd]? =some x):((aH P T k).flatMap encI)[nd]? =some (J (((T.take k).count x:Nat):Int)):=by rw[iJ];unfold aH;simp[h]
theorem Tryz.infoSl:(prog.info? 22).map (λi=>(i.zero,i.size,i.bytes))=some (some (.slice none 0 0),1,24):=by kernel_rfl
def sC(l:List α)(a:α)(i:Nat)(h:i=l.length):(l++[a])[i]? =some a:=by subst h;simp
def A7(l:List α)(a c:α)(i:Nat)(h:i=l.length):(l++[a]).set i c=l++[c]:=by subst h;simp
def Cm(P:List Int):∀(f:Nat) (v:Int),(upF P f v).length<=f
 |0,_=>Nat.le_refl _
 |f+1,v=>by
  unfold upF;split;.have:=Cm P f (P.getD v.toNat 0);rw[List.length_cons];omega
  .simp
def rC(P:List Int)(v:Int):(upL P v).length<=P.length:=Cm P _ _
def qR(P:List Int):(ac P).Nodup:=by unfold ac ay;exact List.Pairwise.filter _ (List.Pairwise.map Int.ofNat (λa b h e=>h (Int.ofNat.inj e)) List.nodup_range)
def uR{nd:Nat}(h:T[k]? =some x)(H:(ac P)[nd]? =some x):((aH P T k).flatMap encI).set nd (J ((((T.take k).count x:Nat):Int)+1))=(aH P T (k+1)).flatMap encI:=by
  rw[iJ,iJ];unfold aH;rw[List.map_map,List.map_map];refine List.ext_getElem? λj=>?_;rw[List.getElem?_set];have O:=(List.getElem?_eq_some_iff.1 H).1;by_cases e:nd=j;. subst e;rw[if_pos rfl,List.length_map,if_pos O,List.getElem?_map,H,cj h];simp
  . rw[if_neg e,List.getElem?_map,List.getElem?_map,cj h];cases Y:(ac P)[j]? with
    | none=>rfl
    | some y=>have I:y≠x:=(by rintro rfl;obtain⟨a1,V⟩:=List.getElem?_eq_some_iff.1 H;obtain⟨b1,b2⟩:=List.getElem?_eq_some_iff.1 Y;exact e ((List.getElem_inj (qR P)).1 (V.trans b2.symm)));simp[List.count_append,List.count_singleton,Ne.symm I]
def vu(h:T[k]? =some x):aZ T (k+1)=aZ T k++[(((T.take k).count x:Nat):Int)]:=by unfold aZ;rw[List.range_succ,List.map_append];show _++[cI T k]=_;unfold cI;rw[bH h]
def sr(w:World)(b:Nat)(AP AT:Option Addr)(cP cT:Nat)(P T:List Int)(hc:a8 P T=0)(hB:Blk w b 213 (fe (.slice AP P.length cP) (.slice AT T.length cT) 0 1 rf rf rf rf))(hP:RdL w (.slice AP P.length cP) 1 encI P)(hT:RdL w (.slice AT T.length cT) 1 encI T)(nP:∀g,(Value.slice AP P.length cP).ownBlock=some g->g≠b)(nT:∀g,(Value.slice AT T.length cT).ownBlock=some g->g≠b):E 170 #[↑b] w λe w'=>e= returned (tuple #[])/\∃vL O vN vS vM H,js w w' b (.slice AP P.length cP) (.slice AT T.length cT) P T vL O vN vS vM H T.length:=by
  refine ajV ?_;intro i0 hi JF JH hz2 HI;clear hi JF JH hz2;obtain⟨j0,hi,JF,JH,hz2⟩:=info_parts Tryz.infoSl;have HJ:=qh (And.intro hi (And.intro JF (And.intro JH hz2)));clear hi JF JH hz2;obtain⟨hm,NI,Ou,VS⟩:=aQ hc;have J5:=bi hm;have KD:=a7 P P.length;have MQ:(ac P).length<=32:=by show(ay P P.length).length<=_;omega
  have ND:sI P T=ac P:=by unfold sI;rw[if_pos hc]
  have Wz:=qh hB;have Lj:=qh (And.intro hP hT);have Kv:=qh (And.intro nP nT);have JX:=qh (And.intro NI VS);have Ki:=hB.lt;have f0:=hB.cell 0;have f1:=hB.cell 1;have Ut:=qh (tT w _ _ P T hP hT);rw[ND]at Ut;simp only[fe]at f0 f1;clear hc hB hP hT nP nT hm NI Ou VS KD ND;go_enter func170,ntmps170;go_wp2_with fail;refine Ut.o.mono ?_;rintro en w1 ⟨v2,rfl,o2,b2⟩;obtain⟨A2,c2,rfl⟩:=bO o2;have B2:=qh (Wz.o.below b2 Ki);have Jx:=b2.size;have c8:=B2.o.cell 8;have z8:=B2.o.free 8;simp only[fe,rf]at c8;have A0:=qh (gb.single w1 w.heap.size b (aq (.slice A2 (ac P).length c2) (ac P)) o2 (λe=>by have:=(o2.lt _ e).1;omega));have K2:=qh b2;clear o2 b2 f0 f1;go_wp2_with (refine wpList_make_full _ rfl (.tmp 15) (.tmp 15) 22 rfl w1.heap.size 3 i0 (J 0) 1 Tryz.underlying22 HI.o.1 HI.o.2.1 HI.o.2.2.1 .i64 .i64 (ac P).length (ac P).length (ac P).length rfl rfl rfl rfl ?b2 ?b3 (Nat.le_refl _) ?_);case b2=>rw[HI.o.2.2.2];omega
  case b3=>unfold maxLen;omega
  intro w3 r' hg;have N7:w3.ownsRow w1.heap.size 3 1 (slice (some ⟨w1.heap.size,0,none⟩) (ac P).length (ac P).length) (ac P).length ((aH P T 0).flatMap encI):=by rw[kB,<-uS P T]at r';exact r'
  have Mr:Below w1.heap.size w1 w3:=(Below.refl w1.heap.size w1).grown hg (Nat.le_refl _) (λj hj=>by cases hj);have B3:=qh (B2.o.below Mr B2.o.lt);have d8:=B3.o.cell 8;have y8:=B3.o.free 8;have d1:=B3.o.cell 1;simp only[fe,rf]at d8 d1;have HO:=qh (And.intro N7 (And.intro hg Mr));clear r' N7 hg Mr c8 z8
  have KP:js w (w3.setCell ⟨b,8,none⟩ (slice (some ⟨w1.heap.size,0,none⟩) (ac P).length (ac P).length)) b (.slice AP P.length cP) (.slice AT T.length cT) P T (.slice A2 (ac P).length c2) rf rf rf (slice (some ⟨w1.heap.size,0,none⟩) (ac P).length (ac P).length) [] 0:=by
    have XY:b<w1.heap.size:=by omega
    have a1:=(A0.o.push 3).app (i:=1) (w':=w3) (v':= slice (some ⟨w1.heap.size,0,none⟩) (ac P).length (ac P).length) (n':=(aH P T 0).length) (xs':=(aH P T 0).flatMap encI) rfl XY HO.o.2.1 (by
      have h:=db HO.o.1 K2.o.size;have e:(aH P T 0).length=(ac P).length:=by simp[aH]
      rw[e];exact h) (.inr ⟨_,Nat.le_refl _,rfl⟩)
    have a2:=a1.turn (w':=w3.setCell ⟨b,8,none⟩ (slice (some ⟨w1.heap.size,0,none⟩) (ac P).length (ac P).length)) (aa.setCell (aa.refl [b] w3) (.inl ahF) _);refine⟨B3.o.set_ 8 _,((a2.push 3).push 3).push 22,rfl,λi x r _ h=>by simp at h,?_⟩;exact((aa.of_below K2.o).trans (aa.of_below HO.o.2.2)).trans (aa.setCell (aa.refl [b] w3) (.inl ahF) _)
  have WD:=qh KP;clear KP;go_wp2_with fail;go_loopw [25] (λi wr=>∃(k:Nat) (O vN vS vM:Value) (H:List eK),i= J k/\k<=T.length/\js w wr b (.slice AP P.length cP) (.slice AT T.length cT) P T (.slice A2 (ac P).length c2) O vN vS vM H k) (λi _=>T.length-(intOf i).toNat);case atStart=>exact⟨0,_,_,_,_,[],rfl,by omega,WD.o⟩
  case round=>
    obtain⟨k,O,vN,vS,vM,H,rfl,hk,hF⟩:=hrel;obtain⟨wo,rfl⟩:∃wo:World,wo=wr:=⟨_,rfl⟩;have HF:=qh hF;clear hF d1 d8;by_cases I':k<T.length
    . obtain⟨x,hx⟩:=ak I';have RM:=jo JX.o.2 hx;have L0:=jj (P:=P) (k:=P.length) RM;obtain⟨m,rfl⟩:=Int.eq_ofNat_of_zero_le L0.2.1;have bF:m<P.length:=(by have:=L0.2.2;omega);have RT:=Lj.o.2.turns HF.o.bel (λg hg hm=>by simp at hm;exact Kv.o.2 g hg hm);obtain⟨bT,oT,rfl,Z',U7⟩:=ip RT ahE;have q0:=U7 k _ hx;have RL:=dJ (HF.o.rows.own (aq (.slice A2 (ac P).length c2) (ac P)) ahF) ahE;have QM:=qh (lZ wo _ (ac P) m RL);obtain⟨nd,ab⟩:∃nd:Nat,fI (ac P) m=nd:=by have h0:=(eP (ac P) (m:Int)).1.2 RM;exact⟨(fI (ac P) m).toNat,by omega⟩
      have bw:nd<(ac P).length:=(by have:=(eP (ac P) (m:Int)).2.1;omega);rw[ab]at QM;have HX:=qh (And.intro hx (And.intro ab (mR RM ab)));have Rr:wo.ownsRow w.heap.size 3 1 vN (ao P T k).length ((ao P T k).flatMap encI):=HF.o.rows.own (aq vN (ao P T k)) ahF;rw[dm hk]at Rr;obtain⟨AN,cN,rfl⟩:=bO Rr;have e6:=HF.o.blk.cell 6;have z6:=HF.o.blk.free 6;simp only[fe]at e6;clear hx RM L0 RT U7 RL ab
      go_wp2_with (first
        | (go_at_call 119;refine QM.o.mono ?_;rintro e w' ⟨rfl,rfl⟩)
        | (at_builtin;go_loud (refine wpList_append_own_at _ rfl _ _ 22 rfl w.heap.size 3 i0 (J 0) 1 8 Tryz.underlying22 HI.o.1 HI.o.2.1 HI.o.2.2.1 HI.o.2.2.2 rfl ahG _ _ _ rfl (Rr.alloc _) ⟨wo.heap.size,0,none⟩ 1 1 (encI nd) rfl rfl (cell_one_new _ _ _) (ke _) ?c3 ?c4 ?c5 ?_)))
      case c3=>unfold maxLen;omega
      case c4=>omega
      case c5=>simp;have:=HF.o.bel.size;omega
      intro v' w4 MB Mw OA LB;obtain⟨V,Y,rfl⟩:=bO MB;have NO:=(HF.o.blk.alloc (cells #[J nd] 3)).grown Mw (λe=>HF.o.rows.nb (aq (.slice AN k cN) (ao P T k)) ahF e.symm);have UH:=NO.cell 6;have Zw:=NO.free 6;simp only[fe]at UH;obtain⟨w5,J8⟩:=LE (w4.setCell ⟨b,6,none⟩ (.slice V (k+1) Y));have SO:eD w w5 b (fe (.slice AP P.length cP) (slice (some ⟨bT,oT,none⟩) T.length cT) 0 1 O (.slice V (k+1) Y) vS vM) ([aq (.slice A2 (ac P).length c2) (ac P),aq vM (aH P T k),⟨3,.slice V (k+1) Y,k+1,(ao P T k).flatMap encI++encI nd⟩,aq vS (aZ T k),eZ (H.map (·.v)) O]++H):=by rw[J8];exact HF.o.g.app (i:=2) (r:=aq (.slice AN k cN) (ao P T k)) rfl (cells #[J nd] 3) Mw MB LB 6
      rw[show(⟨3,.slice V (k+1) Y,k+1,(ao P T k).flatMap encI++encI nd⟩:eK)=aq (.slice V (k+1) Y) (ao P T (k+1))from by
        unfold aq
        rw[dm ahE,vc HX.o.1,HX.o.2.1,iK]]at SO
      have Li:=qh SO;clear MB Mw OA LB NO SO Rr e6 z6 q0;go_upto_region 7 with fail;rw[<-J8];clear J8 UH Zw;have Rt:w5.ownsRow w.heap.size 3 1 vS (aZ T k).length ((aZ T k).flatMap encI):=Li.o.rows.own (aq vS (aZ T k)) ahF;rw[gk]at Rt;obtain⟨AS,cS,rfl⟩:=bO Rt;have MR:w5.ownsRow w.heap.size 3 1 vM (aH P T k).length ((aH P T k).flatMap encI):=Li.o.rows.own (aq vM (aH P T k)) ahF;rw[cQ]at MR;obtain⟨I,cM,rfl,al,ax⟩:=gG MR ahE;have m0:=MR.cellAt nd ahE;rw[pX HX.o.2.2]at m0;have Uf:=qh (Li.o.rows.nb (aq (.slice AS k cS) (aZ T k)) ahF);obtain⟨ct,Nz⟩:∃ct:Nat,ct=(T.take k).count (m:Int):=⟨_,rfl⟩;rw[<-Nz]at m0;have Lx:=qh Nz;have c7:=Li.o.blk.cell 7;have c8:=Li.o.blk.cell 8;simp only[fe]at c7 c8;have Nt:=qh (And.intro Rt MR);have ML:b<w5.heap.size:=Li.o.blk.lt;clear Nz Rt MR;go_cut [5] (λs5 wx=>s5= J (nd:Nat)/\∃Oe,eD w wx b (fe (.slice AP P.length cP) (slice (some ⟨bT,oT,none⟩) T.length cT) 0 1 O (.slice V (k+1) Y) Oe (slice (some ⟨I,0,none⟩) (ac P).length cM)) ([aq (.slice A2 (ac P).length c2) (ac P),aq (slice (some ⟨I,0,none⟩) (ac P).length cM) (aH P T k),aq (.slice V (k+1) Y) (ao P T (k+1)),aq Oe (aZ T (k+1)),eZ (H.map (·.v)) O]++H))
      case first=>
        go_region_law ((go_loud ((refine step_append_lies _ rfl _ _ 22 rfl w.heap.size 3 i0 (J 0) 1 8 Tryz.underlying22 HI.o.1 HI.o.2.1 HI.o.2.2.1 HI.o.2.2.2 rfl ahG _ _ _ rfl (show World.ownsRow (w5.alloc (cells #[J ct] 3)).drew w.heap.size 3 1 (.slice AS k cS) k ((aZ T k).flatMap encI)from Nt.o.1.alloc _) ⟨w5.heap.size,0,none⟩ 1 1 (encI ct) rfl rfl (λj u hj=>cell_one_new w5 (J ct) 3 j u hj) (ke _) ahG (by unfold maxLen;omega) ahE (by simp;have:=Li.o.bel.size;omega) _ rfl ?_));intro g6 PM w6 h6 S4 Qe bc;have UE:=(Li.o.blk.alloc (cells #[J ct] 3)).drew.grown S4 (λe=>Uf.o e.symm);have Xu:=UE.cell 7;have bW:=UE.free 7;simp only[fe]at Xu))
        all_goals
          have PT:=(Li.o.below (w':=w5.drew) (Below.refl _ _).drew).app (i:=3) (r:=aq (.slice AS k cS) (aZ T k)) rfl (cells #[J ct] 3) S4 h6 (Qe.imp (λe=>e.symm) (λe=>by rw[e];simp[Value.ownBlock])) 7;have L2:=qh PT;clear PT h6 S4 Qe;go_wp2_with fail;go_meet
          case rel=>
            have h:eD w ((w6.setCell ⟨b,7,none⟩ (slice (some ⟨g6,0,none⟩) (k+1) PM))) b (fe (.slice AP P.length cP) (slice (some ⟨bT,oT,none⟩) T.length cT) 0 1 O (.slice V (k+1) Y) (slice (some ⟨g6,0,none⟩) (k+1) PM) (slice (some ⟨I,0,none⟩) (ac P).length cM)) ([aq (.slice A2 (ac P).length c2) (ac P),aq (slice (some ⟨I,0,none⟩) (ac P).length cM) (aH P T k),aq (.slice V (k+1) Y) (ao P T (k+1)),⟨3,slice (some ⟨g6,0,none⟩) (k+1) PM,k+1,(aZ T k).flatMap encI++encI ct⟩,eZ (H.map (·.v)) O]++H):=L2.o
            rw[show(⟨3,slice (some ⟨g6,0,none⟩) (k+1) PM,k+1,(aZ T k).flatMap encI++encI ct⟩:eK)=aq (slice (some ⟨g6,0,none⟩) (k+1) PM) (aZ T (k+1))from by
              unfold aq
              rw[gk,vu HX.o.1,<-Lx.o,iK]]at h
            exact⟨rfl,_,h⟩
      case rest=>
        obtain⟨rfl,Oe,PT⟩:=hcut;have L2:=qh PT;clear PT c7 c8 m0 Uf ML;have MR:wc.ownsRow w.heap.size 3 1 (slice (some ⟨I,0,none⟩) (ac P).length cM) (aH P T k).length ((aH P T k).flatMap encI):=L2.o.rows.own (aq (slice (some ⟨I,0,none⟩) (ac P).length cM) (aH P T k)) ahF;rw[cQ]at MR;have m0:=MR.cellAt nd ahE;rw[pX HX.o.2.2,<-Lx.o]at m0;have y0:=MR.frozenAt nd;have JA:=MR.stored nd (J ((ct:Int)+1));have c8:=L2.o.blk.cell 8;simp only[fe]at c8;have ad:ct<=32:=(by rw[Lx.o];have h1:=List.count_le_length (l:=T.take k) (a:=(m:Int));have h2:=List.length_take_le k T;omega);have L6:=qh JA;clear JA MR;go_upto_region 9 with fail
        have Oo:eD w (wc.setCell ⟨I,nd,none⟩ (J ((ct:Int)+1))) b (fe (.slice AP P.length cP) (slice (some ⟨bT,oT,none⟩) T.length cT) 0 1 O (.slice V (k+1) Y) Oe (slice (some ⟨I,0,none⟩) (ac P).length cM)) ([aq (.slice A2 (ac P).length c2) (ac P),aq (slice (some ⟨I,0,none⟩) (ac P).length cM) (aH P T (k+1)),aq (.slice V (k+1) Y) (ao P T (k+1)),aq Oe (aZ T (k+1)),eZ (H.map (·.v)) O]++H):=by
          have h:=L2.o.put (i:=1) (r:=aq (slice (some ⟨I,0,none⟩) (ac P).length cM) (aH P T k)) rfl (g:=I) (j:=nd) rfl (J ((ct:Int)+1)) (xs':=(aH P T (k+1)).flatMap encI) (by
            have h1:=L6.o.1;rw[Lx.o,uR HX.o.1 HX.o.2.2,<-Lx.o]at h1;show World.ownsRow _ _ _ 1 _ (aH P T k).length _;rw[cQ]
            exact h1)
          have e:(⟨3,slice (some ⟨I,0,none⟩) (ac P).length cM,(aH P T k).length,(aH P T (k+1)).flatMap encI⟩:eK)=aq (slice (some ⟨I,0,none⟩) (ac P).length cM) (aH P T (k+1)):=(by unfold aq;rw[cQ,cQ]);rw[<-e];exact h
        have Ub:=qh (Oo.push 3);clear Oo m0 y0 c8;obtain⟨w7,VZ⟩:=LE (wc.setCell ⟨I,nd,none⟩ (J ((ct:Int)+1)));rw[<-VZ]at Ub ⊢;clear VZ;go_wp2_with fail;go_loopw [6,7] (λs6 s7 wr=>∃(z:Int) (dn:List Int),s7= J z/\z<P.length/\upL P m=dn++upL P z/\(dn.length:Int)+z<=m/\eD w wr b (fe (.slice AP P.length cP) (slice (some ⟨bT,oT,none⟩) T.length cT) 0 1 O (.slice V (k+1) Y) Oe (slice (some ⟨I,0,none⟩) (ac P).length cM)) (([aq (.slice A2 (ac P).length c2) (ac P),aq (slice (some ⟨I,0,none⟩) (ac P).length cM) (aH P T (k+1)),aq (.slice V (k+1) Y) (ao P T (k+1)),aq Oe (aZ T (k+1)),eZ (H.map (·.v)) O]++H)++[aq s6 dn])) (λ_ s7 _=>(intOf s7+1).toNat);case atStart=>exact⟨m,[],rfl,by omega,rfl,by simp,Ub.o⟩
        case round=>
          obtain⟨z,dn,rfl,hz,Lq,NA,hG⟩:=hrel;obtain⟨wi,rfl⟩:∃wi:World,wi=wr:=⟨_,rfl⟩;have NN:=qh hG;have bA:dn.length<=P.length:=(by have h1:=congrArg List.length Lq;rw[List.length_append]at h1;have h2:(upL P m).length<=P.length:=rC P m;omega);have Qk:wi.ownsRow w.heap.size 3 1 u6 dn.length (dn.flatMap encI):=hG.rows.own (aq u6 dn) ahF;have Uz:=qh Lq;clear hG Lq;by_cases h0:0<=z
          . obtain⟨n,rfl⟩:=Int.eq_ofNat_of_zero_le h0;have hn:n<P.length:=(by omega);obtain⟨q,hq⟩:=ak hn;have RA:=gD JX.o.1 hq;have HQ:=qh (gq JX.o.1 hq);have WX:=qh hq;obtain⟨A6,c6,rfl⟩:=bO Qk;clear hq;go_wp2_with (at_builtin;go_loud (refine wpList_append_own_at _ rfl _ _ 22 rfl w.heap.size 3 i0 (J 0) 1 8 Tryz.underlying22 HI.o.1 HI.o.2.1 HI.o.2.2.1 HI.o.2.2.2 rfl ahG _ _ _ rfl (Qk.alloc _) ⟨wi.heap.size,0,none⟩ 1 1 (encI n) rfl rfl (cell_one_new _ _ _) (ke _) ?d3 ?d4 ?d5 ?_));case d3=>unfold maxLen;omega
            case d4=>omega
            case d5=>simp;have:=NN.o.bel.size;omega
            intro v8 w8 VG Vi Yz U1;have PU:=NN.o.grow (i:=5+H.length) (r:=aq (.slice A6 dn.length c6) dn) (sC _ _ _ ahJ) (cells #[J n] 3) Vi VG U1;rw[A7 _ _ _ _ ahJ]at PU;have L3:=qh PU;have RP:=Lj.o.1.turns PU.bel (λg hg hm=>by simp at hm;exact Kv.o.1 g hg hm);have x0:=PU.blk.cell 0;simp only[fe]at x0;obtain⟨bP,oP,XL,_,U6⟩:=ip RP ahE;have x1:=U6 n q WX.o;rw[show(⟨(aq (.slice A6 dn.length c6) dn).e,v8,dn.length+1,dn.flatMap encI++encI n⟩:eK)=aq v8 (dn++[(n:Int)])from by unfold aq;rw[iK,List.length_append];rfl]at L3;clear VG Vi Yz U1 PU RP U6 Qk;subst XL;go_wp2;go_roundw;case rel=>exact⟨q,dn++[(n:Int)],rfl,by omega,by rw[Uz.o,HQ.o];simp,by simp;omega,L3.o⟩
            case measure=>simp[intOf];omega
          . have WB:=qh (show dn=upL P m from by have h:=Uz.o;rw[xm (P:=P) (p:=z) ahE,List.append_nil]at h;exact h.symm);obtain⟨A6,c6,rfl⟩:=bO Qk;have RI:H.length=k:=HF.o.len;have Ru:wi.ownsRow w.heap.size 22 1 O (H.map (·.v)).length (H.map (·.v)):=(by have h:=NN.o.rows.own (eZ (H.map fun(r:eK)=>r.v) O) ahF;exact h);rw[List.length_map,RI]at Ru;obtain⟨AV,cV,rfl⟩:=bO Ru;have x5:=NN.o.blk.cell 5;simp only[fe]at x5;have PF:=qh RI;clear Qk RI;go_wp2_with (at_builtin;go_loud (refine wpList_append_own_at _ rfl _ _ 211 rfl w.heap.size 22 j0 (.slice none 0 0) 1 24 Tryz.underlying211 HJ.o.1 HJ.o.2.1 HJ.o.2.2.1 HJ.o.2.2.2 rfl ahG _ _ _ rfl (Ru.alloc _) ⟨wi.heap.size,0,none⟩ 1 1 [.slice A6 dn.length c6] rfl rfl (cell_one_new _ _ _) ah6 ?e3 ?e4 ?e5 ?_));case e3=>unfold maxLen;omega
            case e4=>omega
            case e5=>have h9:=NN.o.bel.size;first|omega|(simp;omega)|exact Nat.le_trans h9 ahF
            intro v9 w9 Tm S7 YA U2;obtain⟨A9,c9,rfl⟩:=bO Tm;have Lm:=(NN.o.blk.alloc (cells #[.slice A6 dn.length c6] 22)).grown S7 (λe=>NN.o.rows.nb (eZ (H.map fun(r:eK)=>r.v) (.slice AV k cV)) ahF e.symm);have e9:=Lm.cell 5;have z9:=Lm.free 5;simp only[fe]at e9;have PV:=NN.o.app (i:=4) (r:=eZ (H.map fun(r:eK)=>r.v) (.slice AV k cV)) rfl (cells #[.slice A6 dn.length c6] 22) S7 Tm U2 5;have R7:=qh PV;clear Tm S7 YA U2 Lm PV Ru;go_wp2
            have WE:=qh (show js w (w9.setCell ⟨b,5,none⟩ (.slice A9 (k+1) c9)) b (.slice AP P.length cP) (slice (some ⟨bT,oT,none⟩) T.length cT) P T (.slice A2 (ac P).length c2) (.slice A9 (k+1) c9) (.slice V (k+1) Y) Oe (slice (some ⟨I,0,none⟩) (ac P).length cM) (H++[aq (.slice A6 dn.length c6) dn]) (k+1)from by
              have e:(⟨22,.slice A9 (k+1) c9,k+1,(H.map fun(r:eK)=>r.v)++[.slice A6 dn.length c6]⟩:eK)=eZ ((H++[aq (.slice A6 dn.length c6) dn]).map fun(r:eK)=>r.v) (.slice A9 (k+1) c9):=(by unfold eZ;simp[PF.o,aq]);refine⟨R7.o.blk,?_,by simp[PF.o],λi x r hT hU=>?_,R7.o.bel⟩;. rw[<-e];exact R7.o.rows
              . by_cases Yc:i<k;. rw[List.getElem?_append_left (by rw[PF.o];exact Yc)]at hU;exact HF.o.up i x r hT hU
                . have Yd:i=k:=(by have h1:=(List.getElem?_eq_some_iff.1 hU).1;rw[List.length_append,List.length_singleton,PF.o]at h1;omega);subst Yd;rw[sC _ _ _ PF.o.symm]at hU;injection hU with hU;rw[HX.o.1]at hT;injection hT with hT
                  rw[<-hU,<-hT,<-WB.o];rfl)
            go_roundw;case rel=>exact⟨k+1,_,_,_,_,_,by go_num,by omega,WE.o⟩
            case measure=>simp[intOf];omega
    . obtain rfl:k=T.length:=by omega
      go_wp2;go_end0;exact⟨rfl,_,_,_,_,_,_,HF.o⟩
end
section
open Go.RowKit
structure iD(w:World)(b:Nat)(P T:List Int):Prop where
 ok:a8 P T=0
 ex:∃AP cP AT cT vU vN vS vM us,Blk w b 213 (fe (.slice AP P.length cP) (.slice AT T.length cT) 1 0 vU vN vS vM)/\RdL w (.slice AP P.length cP) 1 encI P/\RdL w (.slice AT T.length cT) 1 encI T/\
  RdL w vN 1 encI (ao P T T.length)/\RdL w vS 1 encI (aZ T T.length)/\RdL w vM 1 encI (aH P T T.length)/\
  RdL w vU 1 (λv=>[v]) us/\us.length=T.length/\∀(i:Nat) (x:Int) (v:Value),T[i]? =some x->us[i]? =some v->RdL w v 1 encI (upL P x)
def iD.below(h:iD w b P T)(k:Below w.heap.size w w'):iD w' b P T:=by obtain⟨H,cP,I,O,vU,vN,vS,vM,us,h1,V,Y,h4,h5,h6,h7,h8,h9⟩:=h.ex;exact⟨h.ok,H,cP,I,O,vU,vN,vS,vM,us,h1.below k h1.lt,V.below k (Nat.le_refl _),Y.below k (Nat.le_refl _),h4.below k (Nat.le_refl _),h5.below k (Nat.le_refl _),h6.below k (Nat.le_refl _),h7.below k (Nat.le_refl _),h8,λi x v a c=>(h9 i x v a c).below k (Nat.le_refl _)⟩
def eU(w:World)(b:Nat)(P T:List Int)(h:iD w b P T):E 133 #[↑b] w λe w'=>e= .returned ↑b/\w=w':=by obtain⟨V,cP,Y,cT,vU,vN,vS,vM,us,H,_⟩:=h.ex;have c2:=H.cell 2;simp only[fe]at c2;have I:=qh (λO=>C2 b 2 O w c2);clear h H c2;go_enter func133,ntmps133;go_wp2_with fail;refine LT (I.o _) ?_;go_wp2;go_ret;exact⟨rfl,rfl⟩
end
section
open Go.RowKit
def Tab(w:World)(b:Nat)(P T:List Int):Prop:=a8 P T=0/\(IW w b P T\/iD w b P T)
def iD.tab(h:iD w b P T):Tab w b P T:=⟨h.ok,.inr h⟩
def Tab.thr(h:Tab w b P T):∃H I,Z w b 1 (.slice H T.length I):=by
 rcases h.2 with O|O
 .obtain⟨V,cP,H,I,h1,_⟩:=O.ex;exact⟨H,I,h1.cell 1⟩
 .obtain⟨V,cP,H,I,vU,vN,vS,vM,Y,h1,_⟩:=O.ex;exact⟨H,I,h1.cell 1⟩
def dY(w:World)(b:Nat)(P T:List Int)(h:Tab w b P T):E 136 #[↑b] w λe w'=>e= returned (J (T.length:Nat))/\w=w':=by obtain⟨H,I,c1⟩:=h.thr;clear h;go_enter func136,ntmps136;go_wp2;go_ret;exact⟨rfl,rfl⟩
def Fg(T:List Int)(i:Int):Bool:=decide (0<=i/\i<T.length)
def wG(w:World)(b:Nat)(P T:List Int)(i:Int)(r:Bool)(V:Fg T i=r)(h:Tab w b P T):E 132 #[↑b,J i] w λe w'=>e= returned (.bool r)/\w=w':=by
  have I:=qh (dY w b P T h);have H:=qh V;clear h V;go_enter func132,ntmps132;by_cases O:0<=i;. go_wp2_with fail;refine LT I.o ?_;go_wp2;go_ret;exact⟨aA (by rw[<-H.o];simp[Fg,O]),rfl⟩
  . go_wp2;go_ret;exact⟨aA (by rw[<-H.o];unfold Fg;symm;exact decide_eq_false ahE),rfl⟩
end
section
open Go.RowKit
variable{sz:Nat}{α:Type}
structure km(lo:Nat)(w:World)(b:Nat)(P T:List Int):Prop where
 low:lo<=b
 ex:∃AP cP AT cT,Blk w b 213 #[.slice AP P.length cP,.slice AT T.length cT,.int .u32 0,.int .i32 0,.int .u32 0,.slice none 0 0,.slice none 0 0,.slice none 0 0,.slice none 0 0]/\RdL w (.slice AP P.length cP) 1 encI P/\RdL w (.slice AT T.length cT) 1 encI T/\(∀g,(Value.slice AP P.length cP).ownBlock=some g->g≠b)/\(∀g,(Value.slice AT T.length cT).ownBlock=some g->g≠b)/\
  (∀g,(Value.slice AP P.length cP).ownBlock=some g->lo<=g)/\(∀g,(Value.slice AT T.length cT).ownBlock=some g->lo<=g)
def RdB(lo hi:Nat)(w:World)(v:Value)(sz:Nat){α:Type}(enc:α->List Value)(l:List α):Prop:=RdL w v sz enc l/\(0<l.length->∀g,v.ownBlock=some g->lo<=g/\g<hi)
def RdB.keep{enc:α->List Value}{l:List α}(h:RdB lo hi w v sz enc l)(k:∀i,lo<=i->i<hi->w'.heap[i]? =w.heap[i]?)(hs:hi<=w'.heap.size):RdB lo hi w' v sz enc l:=by refine⟨?_,h.2⟩;obtain⟨A,cap,rfl,V,Y,h4⟩:=h.1;refine⟨A,cap,rfl,V,Y,λO=>?_⟩;obtain⟨b,off,rfl,I,hc⟩:=h4 O;have H:=h.2 O b rfl;refine⟨b,off,rfl,by omega,λi x hx j u hu=>?_⟩;rw[World.cell?_of_block (w:=w) (w':=w') (a:=⟨b,off+i*sz+j,none⟩) (k b H.1 H.2)];exact hc i x hx j u hu
def RdB.of{enc:α->List Value}{l:List α}(h:RdL w v sz enc l)(H:∀g,v.ownBlock=some g->lo<=g)(hs:hi=w.heap.size):RdB lo hi w v sz enc l:=by refine⟨h,λV g hg=>⟨H g hg,?_⟩⟩;obtain⟨A,cap,rfl,_,_,O⟩:=h;obtain⟨b,off,rfl,I,_⟩:=O V;injection hg with hg;subst hg;rw[hs];exact I
structure ly(lo hi:Nat)(w:World)(b:Nat)(P T:List Int):Prop where
 ok:a8 P T=0
 low:lo<=b
 high:b<hi
 ex:∃AP cP AT cT vU vN vS vM us,Blk w b 213 (fe (.slice AP P.length cP) (.slice AT T.length cT) 1 0 vU vN vS vM)/\RdB lo hi w (.slice AP P.length cP) 1 encI P/\RdB lo hi w (.slice AT T.length cT) 1 encI T/\
  RdB lo hi w vN 1 encI (ao P T T.length)/\RdB lo hi w vS 1 encI (aZ T T.length)/\RdB lo hi w vM 1 encI (aH P T T.length)/\
  RdB lo hi w vU 1 (λv=>[v]) us/\us.length=T.length/\∀(i:Nat) (x:Int) (v:Value),T[i]? =some x->us[i]? =some v->RdB lo hi w v 1 encI (upL P x)
def ly.f(h:ly lo hi w b P T):iD w b P T:=by exact aat
def ly.keep(h:ly lo hi w b P T)(k:∀i,lo<=i->i<hi->w'.heap[i]? =w.heap[i]?)(hs:hi<=w'.heap.size):ly lo hi w' b P T:=by obtain⟨H,cP,I,O,vU,vN,vS,vM,us,h1,V,Y,h4,h5,h6,h7,h8,h9⟩:=h.ex;exact⟨h.ok,h.low,h.high,H,cP,I,O,vU,vN,vS,vM,us,(k b h.low h.high).trans h1,V.keep k hs,Y.keep k hs,h4.keep k hs,h5.keep k hs,h6.keep k hs,h7.keep k hs,h8,λi x v a c=>(h9 i x v a c).keep k hs⟩
def gX(w:World)(vP vT:Value)(P T:List Int)(hP:RdL w vP 1 encI P)(hT:RdL w vT 1 encI T)(hc:a8 P T=0):E 63 #[agg #[vP,vT]] w λe w'=>∃b,e= returned (tuple #[pointer (some ⟨b,0,none⟩),J 0])/\w.heap.size<=b/\km w.heap.size w' b P T/\Below w.heap.size w w':=by
  have HC:=eR (w.alloc (cells #[vP,vT] 24)) vP vT P T (hP.alloc _) (hT.alloc _);rw[hc]at HC;have OK:=qh HC;have J':=qh ((Below.refl w.heap.size w).alloc (Nat.le_refl _) (cells #[vP,vT] 24));have Lj:=qh (And.intro hP hT);have J5:=bi (aQ hc).1;obtain⟨V,cP,rfl,TK,TL⟩:=cJ hP;obtain⟨Y,cT,rfl,Qr,Qs⟩:=cJ hT;have HX:=qh (show(w.alloc (cells #[.slice V P.length cP,.slice Y T.length cT] 24)).cell? w.heap.size=some (.slice V P.length cP)/\(w.alloc (cells #[.slice V P.length cP,.slice Y T.length cT] 24)).cell? ⟨w.heap.size,1,none⟩=some (.slice Y T.length cT)by simp[World.cell?_alloc_new]);have Ls:w.heap.size<(w.alloc (cells #[.slice V P.length cP,.slice Y T.length cT] 24)).heap.size:=by simp
  clear hP hT hc HC;go_enter func63,ntmps63;go_wp2_with fail;refine Pi OK.o λw1 b1=>?_;have f0:=(b1.cell (p:=w.heap.size) Ls).trans HX.o.1;have f1:=(b1.cell (p:=⟨w.heap.size,1,none⟩) Ls).trans HX.o.2;have Ju:=b1.size;simp at Ju;have H:=qh (J'.o.trans (b1.mono J'.o.size));have Uk:=qh (λW (h:Below w1.heap.size w1 W)=>And.intro (Lj.o.1.below (H.o.trans (h.mono H.o.size)) (Nat.le_refl _)) (Lj.o.2.below (H.o.trans (h.mono H.o.size)) (Nat.le_refl _)));have bd:Below w1.heap.size w1 w1.drew:=(Below.refl _ _).drew;clear b1;go_wp2_with fail
  go_region_held3 (λW=>W.cell? w.heap.size=some (.slice V P.length cP)/\Z W w.heap.size 1 (.slice Y T.length cT))
    (first|exact⟨f0,f1⟩|exact⟨(I.cell (p:=w.heap.size) (show w.heap.size<w1.heap.size by omega)).trans f0,(I.cell (p:=⟨w.heap.size,1,none⟩) (show w.heap.size<w1.heap.size by omega)).trans f1⟩|exact⟨(O.cell (p:=w.heap.size) (show w.heap.size<w1.heap.size by omega)).trans f0,(O.cell (p:=⟨w.heap.size,1,none⟩) (show w.heap.size<w1.heap.size by omega)).trans f1⟩|exact⟨((I.alloc I.size _).cell (p:=w.heap.size) (show w.heap.size<w1.heap.size by omega)).trans f0,((I.alloc I.size _).cell (p:=⟨w.heap.size,1,none⟩) (show w.heap.size<w1.heap.size by omega)).trans f1⟩)
    (first
      | (go_at_call 78;with_reducible refine(lE _ _ P (Uk.o _ bd).1 ahE).mono ?_;rintro e w2 ⟨v2,rfl,o2,b2⟩;obtain⟨A2,c2,rfl⟩:=bO o2;(have O:Below w1.heap.size w1 w2:=bd.trans (b2.mono ahF));have O2:=qh o2;clear o2)
      | (go_at_call 78;with_reducible refine(lE _ _ T (Uk.o _ O).2 ahE).mono ?_;rintro e w3 ⟨v3,rfl,o3,b3⟩;obtain⟨A3,c3,rfl⟩:=bO o3;(have I:Below w1.heap.size w1 w3:=O.trans (b3.mono O.size));have O3:=qh o3;clear o3))
  all_goals
    have Kp:=I.size;have e2:∀g,(Value.slice A2 P.length c2).ownBlock=some g->g≠w3.heap.size:=λg hg=>by have:=(O2.o.lt g hg).2;have:=b3.size;omega
    have e3:∀g,(Value.slice A3 T.length c3).ownBlock=some g->g≠w3.heap.size:=λg hg=>by have:=(O3.o.lt g hg).2;omega
    have Nv:=qh (show km w.heap.size (w3.alloc (cells #[.slice A2 P.length c2,.slice A3 T.length c3,.int .u32 0,.int .i32 0,.int .u32 0,.slice none 0 0,.slice none 0 0,.slice none 0 0,.slice none 0 0] 213)) w3.heap.size P T from
      ⟨Nat.le_trans H.o.size Kp,A2,c2,A3,c3,Blk.new _ _ _,(dJ (iX O2.o b3) ahE).alloc _,(dJ O3.o ahE).alloc _,e2,e3,λg hg=>by have h1:w1.heap.size<=g:=(O2.o.lt g hg).1;have:=H.o.size;omega,λg hg=>by have h1:w2.heap.size<=g:=(O3.o.lt g hg).1;have:=H.o.size;have:=O.size;omega⟩)
    have Og:=qh ((H.o.trans (I.mono H.o.size)).alloc (Nat.le_trans H.o.size Kp) (cells #[.slice A2 P.length c2,.slice A3 T.length c3,.int .u32 0,.int .i32 0,.int .u32 0,.slice none 0 0,.slice none 0 0,.slice none 0 0,.slice none 0 0] 213));go_wp2;go_ret2;exact⟨_,rfl,Nat.le_trans H.o.size Kp,Nv.o,Og.o⟩
def lr{w1 w2:World}{H I:Option Addr}{cP cT:Nat}{vU vM:Value}{us:List eK}(hc:a8 P T=0)(h:js w1 w2 b (.slice H P.length cP) (.slice I T.length cT) P T vL vU vN vS vM us T.length)(hP:RdL w1 (.slice H P.length cP) 1 encI P)(hT:RdL w1 (.slice I T.length cT) 1 encI T)(nP:∀g,(Value.slice H P.length cP).ownBlock=some g->g≠b)(nT:∀g,(Value.slice I T.length cT).ownBlock=some g->g≠b)(JV:lo<=b)(JY:b<w1.heap.size)(lP:∀g,(Value.slice H P.length cP).ownBlock=some g->lo<=g)(lT:∀g,(Value.slice I T.length cT).ownBlock=some g->lo<=g):ly lo (dp b 2 w2).heap.size (dp b 2 w2) b P T/\aa [b] w1 (dp b 2 w2):=by
  refine aji ?_;intro J5 KD k0 k1 V;have Mg:∀r∈([aq vL (ac P),aq vM (aH P T T.length),aq vN (ao P T T.length),aq vS (aZ T T.length),eZ (us.map (·.v)) vU]++us),∀g,r.v.ownBlock=some g->lo<=g:=λr hm g hg=>by have:=((V r hm).lt g hg).1;omega
  refine⟨⟨hc,JV,by have:=k1.size;omega,H,cP,I,cT,vU,vN,vS,vM,us.map (·.v),?_,RdB.of (hP.turns k1 (λg hg hm=>by simp at hm;exact nP g hg hm)) lP rfl,RdB.of (hT.turns k1 (λg hg hm=>by simp at hm;exact nT g hg hm)) lT rfl,RdB.of ?_ (Mg (aq vN (ao P T T.length)) ahF) rfl,RdB.of ?_ (Mg (aq vS (aZ T T.length)) ahF) rfl,RdB.of ?_ (Mg (aq vM (aH P T T.length)) ahF) rfl,RdB.of ?_ (Mg (eZ (us.map (·.v)) vU) ahF) rfl,by simp[h.len],λi x v hi O=>?_⟩,k1⟩;. exact((h.blk.drew).set_ 2 (.int .u32 1)).set_ 3 (.int .i32 0)
  . exact dJ (V (aq vN (ao P T T.length)) ahF) (by rw[dm (Nat.le_refl _)];omega)
  . exact dJ (V (aq vS (aZ T T.length)) ahF) (by rw[gk];omega)
  . exact dJ (V (aq vM (aH P T T.length)) ahF) (by rw[cQ];omega)
  . have h1:=V (eZ (us.map (·.v)) vU) ahF;refine ajN ?_;intro e;exact h1
  . rw[List.getElem?_map]at O;cases hu:us[i]? with
    | none=>rw[hu]at O;cases O
    | some r=>rw[hu]at O;injection O with O;subst O;have LW:=h.up i x r hi hu;have Y:=V r aik;rw[LW]at Y;refine RdB.of (dJ Y (by have:=rC P x;omega)) (λg hg=>Mg r aik g ?_) rfl;rw[LW];exact hg
def qH(lo:Nat)(w:World)(b:Nat)(P T:List Int)(hc:a8 P T=0)(h:km lo w b P T):E 133 #[↑b] w λe w'=>e= .returned ↑b/\ly lo w'.heap.size w' b P T/\aa [b] w w':=by
  have I:=h.low;have O:b<w.heap.size:=by obtain⟨_,_,_,_,hB,_⟩:=h.ex;exact hB.lt
  obtain⟨AP,cP,AT,cT,hB,hP,hT,nP,nT,V,lT⟩:=h.ex;refine ajs ?_;intro k0 M5 LA hf
  have HD:=qh (sk b 2 ↑b w (λw2=>ly lo (dp b 2 w2).heap.size (dp b 2 w2) b P T/\aa [b] w (dp b 2 w2)) (hB.cell 2) (hB.cell 3) (hB.free 2) (hB.free 3)
    (hf.mono λe w2 ⟨he,vL,vU,vN,vS,vM,us,H⟩=>⟨he,⟨H.blk.cell 2,H.blk.cell 3,H.blk.free 2,H.blk.free 3⟩,(lr hc H M5 LA nP nT I (by simpa[World.setCell]using O) V lT).1,k0.trans (lr hc H M5 LA nP nT I (by simpa[World.setCell]using O) V lT).2⟩))
  clear hf M5 LA hB hP hT nP nT V lT k0 hc h I O;go_enter func133,ntmps133;go_wp2_with fail;refine HD.o.mono ?_;rintro en w' ⟨rfl,w2,Y,hw⟩;have HR:=qh (show ly lo w'.heap.size w' b P T/\aa [b] w w' by rw[hw];exact Y);clear Y hw;go_wp2;go_ret;exact⟨rfl,HR.o⟩
def FI(lo:Nat)(w:World)(b:Nat)(P T:List Int)(hc:a8 P T=0)(h:km lo w b P T):E 137 #[↑b] w λe w'=>e= returned (J ((ac P).length:Nat))/\ly lo w'.heap.size w' b P T/\aa [b] w w':=by have O:=qh (qH lo w b P T hc h);clear h hc;go_enter func137,ntmps137;go_wp2_with fail;refine Op O.o λw' H=>?_;have V:=qh (And.intro H.o.1 H.o.2);obtain⟨AP,cP,AT,cT,vU,vN,vS,vM,us,h1,h2,h3,h4,h5,I,h7,h8,h9⟩:=H.o.1.f.ex;obtain⟨AM,cM,rfl,_,_⟩:=cJ I;have Y:=h1.cell 8;simp only[fe,cQ]at Y;clear h1 h2 h3 h4 h5 I h7 h8 h9;go_wp2;go_ret;exact⟨rfl,V.o⟩
def kq(w:World)(b:Nat)(P T:List Int)(i:Nat)(hi:i<T.length)(h:iD w b P T)(x:Int)(Y:(ao P T T.length)[i]? =some x):E 100 #[↑b,J i] w λe w'=>e= returned (J x)/\w=w':=by have HF:=qh (eU w b P T h);have HH:=qh (wG w b P T i true (decide_eq_true ahE) h.tab);have HX:=qh Y;have Mn:=qh h;clear h Y;go_enter func100,ntmps100;go_wp2_with fail;refine LT HH.o ?_;go_wp2_with fail;refine LT HF.o ?_;have O:=Mn.o;obtain⟨AP,cP,AT,cT,vU,vN,vS,vM,us,h1,h2,h3,H,h5,h6,h7,h8,h9⟩:=O.ex;have V:(ao P T T.length).length=T.length:=dm (Nat.le_refl _);obtain⟨AM,cM,rfl,_,_⟩:=cJ H;obtain⟨b1,o1,hA,_,I⟩:=ip H ahE;subst hA;have q1:=I i x HX.o;have c8:=h1.cell 6;rw[V]at *;simp only[fe]at c8;clear O h1 h2 h3 H h5 h6 h7 h8 h9 I V;go_wp2;go_ret;exact⟨rfl,rfl⟩
end
section
open Go.RowKit
def dk(P T:List Int)(i:Nat):Nat:=(fI (ac P) (T.getD i 0)).toNat
structure bv(w:World)(l a g q b u lo hi:Nat)(dl:Int)(P T:List Int)(h:Hc):Prop where
 ar:aB w a g h.ar
 lk:Blk w l 260 #[↑a,↑b,int i64 1,↑u,int i64 dl,slice (some ⟨q,0,none⟩) T.length T.length]
 sp:dy w q h.S
 tu:ee w u a (2+(ac P).length) T.length h.D
 tab:ly lo hi w b P T
 sl:h.S.length=T.length
 hs:hi<=w.heap.size
 nd:[l,a,g,q,u].Nodup
 o:∀x∈[l,a,g,q,u],x<lo\/hi<=x
section
variable{g:Nat}{h:Hc}
def bv.n32(k:bv w l a g q b u lo hi dl P T h):1<=T.length/\T.length<=32/\(ac P).length<=32:=by have:=bi (aQ k.tab.ok).1;have H:=a7 P P.length;exact⟨this.2.2.1,this.2.2.2,by show(ay P P.length).length<=32;omega⟩
def bv.next(k:bv w l a g q b u lo hi dl P T h){H:Ar}{V:List Int}{I:List Sp}(t:aa [a,g,q,u] w w')(h1:aB w' a g H)(Y:dy w' q I)(h3:ee w' u a (2+(ac P).length) T.length V)(h4:I.length=T.length):bv w' l a g q b u lo hi dl P T ⟨H,V,I⟩:=by
 have O:=k.nd;refine⟨h1,t.blk k.lk ?_,Y,h3,k.tab.keep (λi Yb LG=>t.block i (by have:=k.hs;omega) λhm=>?_) (Nat.le_trans k.hs t.size),h4,Nat.le_trans k.hs t.size,k.nd,k.o⟩;.exact(List.nodup_cons.1 O).1
 .have:=k.o i (List.mem_cons_of_mem _ hm);omega
def bv.below(k:bv w l a g q b u lo hi dl P T h)(t:Below w.heap.size w w'):bv w' l a g q b u lo hi dl P T h:=by have t0:=aa.of_below (S:=[]) t;exact k.next (t0.mono ahF) (k.ar.turns t0 ahF ahF) (k.sp.turns t0 ahF) (k.tu.turns t0 ahF) k.sl
def bv.spot(k:bv w l a g q b u lo hi dl P T h){H:List Sp}(hs:dy w' q H)(O:H.length=T.length)(t:aa [q] w w'):bv w' l a g q b u lo hi dl P T ⟨h.ar,h.D,H⟩:=by have I:=k.nd;simp at I;exact k.next (t.mono ahF) (k.ar.turns t ahJ ahJ) hs (k.tu.turns t ahJ) O
def bv.c0(k:bv w l a g q b u lo hi dl P T h):w.cell? l=some ↑a:=k.lk.cell 0
def bv.c1(k:bv w l a g q b u lo hi dl P T h):Z w l 1 ↑b:=k.lk.cell 1
def bv.c2(k:bv w l a g q b u lo hi dl P T h):Z w l 2 (J 1):=k.lk.cell 2
def bv.c3(k:bv w l a g q b u lo hi dl P T h):Z w l 3 ↑u:=k.lk.cell 3
def bv.c4(k:bv w l a g q b u lo hi dl P T h):Z w l 4 (J dl):=k.lk.cell 4
def bv.c5(k:bv w l a g q b u lo hi dl P T h):Z w l 5 (slice (some ⟨q,0,none⟩) T.length T.length):=k.lk.cell 5
def jU(k:bv w l a g q b u lo hi dl P T h):E 281 #[↑l] w λe w'=>e= returned (J T.length)/\w=w':=by have c5:=k.c5;clear k;go_enter func281,ntmps281;exact aaa
def xd(k:bv w l a g q b u lo hi dl P T h)(i:Int):E 279 #[↑l,J i] w λe w'=>e= returned (aF (getS h.S i))/\Below w.heap.size w w':=by
  obtain⟨_,HN,_⟩:=k.n32;have O:=k.sl;by_cases I:okI h.S i;. have hp:=dG I;obtain⟨p,Y⟩:=LE (getS h.S i);rw[<-Y]at hp ⊢;have c2:=k.c5;refine aj5 ?_;intro a0 a1 a2 a3;obtain⟨V,h1⟩:=I;rw[O]at h1;obtain⟨n,rfl⟩:=Int.eq_ofNat_of_zero_le V;simp only[Int.toNat_natCast]at a0 a1 a2 a3;have Ju:=k.lk.lt;have Jx:=k.sp.lt;have t2:¬(n:Int)<0:=(by omega);have t3:¬((T.length:Nat):Int)<=(n:Int):=(by omega);have t4:n<T.length:=(by omega);have H:Kq (bv (w.alloc (cells #[J 0,J 0,J 0,J 0] 113)) l a g q b u lo hi dl P T h):=qh (k.below ((Below.refl _ _).alloc (Nat.le_refl _) _));clear k hp Y V h1 O;go_enter func279,ntmps279;go_wp2_with (go_at_call 281;refine(jU H.o).mono ?_;rintro e w' ⟨rfl,rfl⟩);exact bodyPost_ret (results_cell_row ahI _ _ w.heap.size 113 _ (0,0) _ ahI (heap_alloc_new w _) Tryz.underlying113 rfl ahH) rfl ⟨rfl,(Below.refl _ _).alloc (Nat.le_refl _) _⟩
  . have H:Kq (bv (w.alloc (cells #[J 0,J 0,J 0,J 0] 113)) l a g q b u lo hi dl P T h):=qh (k.below ((Below.refl _ _).alloc (Nat.le_refl _) _));rw[dz I];unfold okI at I;rw[O]at I;clear k O;by_cases V:i<0;. go_enter func279,ntmps279;go_wp2;exact bodyPost_ret (results_cell_row ahI _ _ w.heap.size 113 _ (0,0) _ ahI (heap_alloc_new w _) Tryz.underlying113 rfl ahH) rfl ⟨rfl,(Below.refl _ _).alloc (Nat.le_refl _) _⟩
    . have t3:((T.length:Nat):Int)<=i:=(by omega);clear I;go_enter func279,ntmps279;go_wp2_with (go_at_call 281;refine(jU H.o).mono ?_;rintro e w' ⟨rfl,rfl⟩);exact bodyPost_ret (results_cell_row ahI _ _ w.heap.size 113 _ (0,0) _ ahI (heap_alloc_new w _) Tryz.underlying113 rfl ahH) rfl ⟨rfl,(Below.refl _ _).alloc (Nat.le_refl _) _⟩
def HOp(w:World)(l a g q b u lo hi:Nat)(dl:Int)(P T:List Int)(x:Hc×Bool)(e:Ending)(w':World):Prop:=e= returned (.bool x.2)/\bv w' l a g q b u lo hi dl P T x.1/\aa [a,g,q,u] w w'
def vY(k:bv w l a g q b u lo hi dl P T h)(i O V:Int):E 282 #[↑l,J i,J O,J V] w (HOp w l a g q b u lo hi dl P T (bj h i O V)):=by
  have H:=qh k;obtain⟨_,J4,_⟩:=k.n32;have Jy:=k.sl;by_cases hi:okI h.S i
  . have Y:=dG hi;obtain⟨p,i'⟩:=LE (getS h.S i);rw[<-i']at Y;have c2:=k.c5;have a0:=ST (k.sp.cell Y 0 _ rfl);have f0:=k.sp.free (i.toNat*4);obtain⟨h0,h1⟩:=id hi;rw[Jy]at h1;obtain⟨n,rfl⟩:=Int.eq_ofNat_of_zero_le h0;simp only[Int.toNat_natCast]at a0 f0 Y;have t2:¬(n:Int)<0:=(by omega);have t3:¬((T.length:Nat):Int)<=(n:Int):=(by omega);have t4:n<T.length:=(by omega);have HP:=qh (And.intro hi (And.intro i' Y));clear k Y i' h0 h1 hi Jy;cases hc:(p.pc !=O)
    . have I:Kq (bj h n O V=(⟨h.ar,h.D,h.S.set n {p with pc:=V}⟩,true)):=qh (by
        unfold bj;have e:p.pc=O:=by simpa using hc
        rw[<-HP.o.2.1,if_pos ⟨HP.o.1,e⟩];simp)
      go_enter func282,ntmps282;go_wp2_with (go_at_call 281;refine(jU H.o).mono ?_;rintro e w' ⟨rfl,rfl⟩);go_ret;rw[I.o];have ht:aa [q] w (w.setCell ⟨q,n*4,none⟩ (J V)):=(aa.refl _ _).setCell (.inl ahF) _;exact⟨rfl,H.o.spot (H.o.sp.put HP.o.2.2 (j:=0) ahG rfl) (by simp[H.o.sl]) ht,ht.mono ahF⟩
    . have I:Kq (bj h n O V=(h,false)):=qh (by
        unfold bj;have e:¬p.pc=O:=by simpa using hc
        rw[<-HP.o.2.1,if_neg (λh=>e h.2)])
      go_enter func282,ntmps282;go_wp2_with (go_at_call 281;refine(jU H.o).mono ?_;rintro e w' ⟨rfl,rfl⟩);go_ret;rw[I.o];exact⟨rfl,H.o,aa.refl _ _⟩
  . have I:Kq (bj h i O V=(h,false)):=qh (by
      unfold bj
      rw[if_neg (λh=>hi h.1)])
    unfold okI at hi;rw[Jy]at hi;clear k Jy;by_cases h0:i<0;. go_enter func282,ntmps282;go_wp2;go_ret;rw[I.o];exact⟨rfl,H.o,aa.refl _ _⟩
    . have t3:((T.length:Nat):Int)<=i:=(by omega);clear hi;go_enter func282,ntmps282;go_wp2_with (go_at_call 281;refine(jU H.o).mono ?_;rintro e w' ⟨rfl,rfl⟩);go_ret;rw[I.o];exact⟨rfl,H.o,aa.refl _ _⟩
def Gg(k:bv w l a g q b u lo hi dl P T h)(i:Int):E 277 #[↑l,J i] w (HOp w l a g q b u lo hi dl P T (bj h i 0 1)):=by obtain⟨x,I⟩:=LE (bj h i 0 1);have H:=qh (vY k i 0 1);rw[<-I]at H ⊢;obtain⟨O,V⟩:=x;clear k I;go_enter func277,ntmps277;go_wp2_with fail;refine Op H.o λw1 H1=>?_;go_wp2;go_ret;exact⟨rfl,H1.o⟩
def Ds(k:bv w l a g q b u lo hi dl P T h)(i:Int):E 278 #[↑l,J i] w (HOp w l a g q b u lo hi dl P T (bj h i 10 11)):=by obtain⟨x,I⟩:=LE (bj h i 10 11);have H:=qh (vY k i 10 11);rw[<-I]at H ⊢;obtain⟨O,V⟩:=x;clear k I;go_enter func278,ntmps278;go_wp2_with fail;refine Op H.o λw1 H1=>?_;go_wp2;go_ret;exact⟨rfl,H1.o⟩
def te(k:bv w l a g q b u lo hi dl P T h)(hi:i<T.length):(ao P T T.length)[i]? =some ((dk P T i:Nat):Int)/\dk P T i<(ac P).length:=by have hm:T.getD i 0∈ac P:=jo (aQ k.tab.ok).2.2.2 (i:=i) (by rw[List.getD_eq_getElem?_getD,List.getElem?_eq_getElem hi];rfl);have h1:=eP (ac P) (T.getD i 0);have H:=h1.1.2 hm;have I:=h1.2.1;unfold dk;refine⟨?_,by omega⟩;unfold ao;rw[List.getElem?_map,List.getElem?_take,if_pos hi,List.getElem?_eq_getElem hi];simp only[Option.map_some,Option.some.injEq];rw[show T.getD i 0=T[i]by rw[List.getD_eq_getElem?_getD,List.getElem?_eq_getElem hi];rfl]at H ⊢;omega
def Bh(k:bv w l a g q b u lo hi dl P T h)(i:Nat)(hi:i<T.length):E 289 #[↑l,J i] w λe w'=>e= returned (J (2+(dk P T i:Nat)))/\Qt w w':=by obtain⟨H,Y⟩:=te k hi;obtain⟨_,_,MI⟩:=k.n32;obtain⟨v,O⟩:=LE (dk P T i);rw[<-O]at H Y ⊢;have I:=qh (λW (h:iD W b P T)=>kq W b P T i hi h v H);have V:=qh k.tab;have HS:=qh k.hs;have c1:=k.c1;have c2:=k.c2;have x1:IntKind.i64.wrap (2+(v:Int))=2+v:=IntWalk.i64_in _ ahE;clear k O H;go_enter func289,ntmps289;go_wp2;go_quiet ((go_at_call 100;exact bG (I.o _ (V.o.f.below (Qt.below ⟨_,rfl⟩ _)))));go_wp2;go_ret;exact⟨rfl,⟨_,rfl⟩⟩
end
end
section
open Go.RowKit
section
variable{g:Nat}{h:Hc}
def pF(w:World)(l a g q b u lo hi:Nat)(dl:Int)(P T:List Int)(h:Hc)(i:Nat)(p:Sp)(x:Ar×List Int×Sp)(e:Ending)(w':World):Prop:=
 e= returned (J x.2.2.pc)/\bv w' l a g q b u lo hi dl P T ⟨x.1,x.2.1,h.S.set i {x.2.2 with pc:=p.pc}⟩/\aa [a,g,q,u] w w'
def bv.op(k:bv w l a g q b u lo hi dl P T h){H:Ar}(t:aa [a,g] w w')(h1:aB w' a g H):bv w' l a g q b u lo hi dl P T ⟨H,h.D,h.S⟩:=by have I:=k.nd;simp at I;exact k.next (t.mono ahF) h1 (k.sp.turns t ahJ) (k.tu.turns t ahJ) k.sl
def bv.putS(k:bv w l a g q b u lo hi dl P T h){p p':Sp}(O:h.S[i]? =some p)(I:j<4)(H:(bf p).set j v=bf p'):bv (w.setCell ⟨q,i*4+j,none⟩ v) l a g q b u lo hi dl P T ⟨h.ar,h.D,h.S.set i p'⟩:=
 k.spot (k.sp.put O I H) (by simp[k.sl]) ((aa.refl _ _).setCell (.inl ahF) _)
def d7{g:Nat}(p:Addr)(v:Value)(H:p.block=q):aa [a,g,q,u] w (w.setCell p v):=(aa.refl _ _).setCell (.inl (by simp[H])) _
def FV(k:bv w l a g q b u lo hi dl P T h)(i:Nat)(hin:i<T.length)(p:Sp)(hp:h.S[i]? =some p)(Y:h.ar.ops+1<=1000000000000)(hd:0<=dv h.D i/\dv h.D i<1000000000)(H':p.pc=1):E 283 #[↑l,J i] w (pF w l a g q b u lo hi dl P T h i p (bm (ac P).length T.length dl h (dk P T i) i p)):=by
  obtain⟨_,HN,_⟩:=k.n32;have LG:(i:Int)<T.length:=by omega
  have c5:=k.c5;obtain⟨v,O⟩:=LE (ldW h.ar.W (2+(dk P T i:Int)));obtain⟨ab,hv⟩:=LE (ch h.ar (2+(dk P T i:Int)) (tokH i (dv h.D i+1)))
  have HX:Kq (bm (ac P).length T.length dl h (dk P T i) i p=(ab,h.D,if v≠0 then {p with a:=v,pc:=5} else if 0<dl then {p with a:=v,b:=dl,pc:=2} else {p with a:=v,b:=0,pc:=3})):=qh (by
    unfold bm
    rw[if_pos H',<-O,<-hv])
  have HL:=qh (λW (k:bv W l a g q b u lo hi dl P T h)=>Bh k i hin);have Sg:=qh (λW (k:bv W l a g q b u lo hi dl P T h)=>Hl k.tu i hin hd);have MG:=(λW (k:bv W l a g q b u lo hi dl P T h)=>fu k.ar (2+(dk P T i:Int)) (tokH i (dv h.D i+1)) Y);rw[<-O,<-hv]at MG;have Ol:=qh MG;have H:=qh (λW (h:Hc) (k:bv W l a g q b u lo hi dl P T h)=>And.intro k.c0 (And.intro k.c3 k.c4));have K1:=qh (k.below ((Below.refl _ w).drew));have HP:=qh (And.intro hp H');clear MG k hp H' hd O hv;by_cases JO:v=0
  . have t0:(v !=0)=false:=(by simpa using JO);have HV:=qh JO;clear JO;by_cases NA:0<dl
    . have HD:=qh NA;go_enter func283,ntmps283;go_wp2_with fail
      go_region_held3 (λW=>W.cell? l=some ↑a/\Z W l 3 ↑u/\Z W l 4 (J dl))
        (first|with_reducible exact H.o _ _ K1.o|with_reducible exact H.o _ _ V.o|with_reducible exact H.o _ _ K3.o|with_reducible exact H.o _ _ K4.o|with_reducible exact H.o _ _ I.o)
        (first
          | (go_at_call 289;go_loud (refine Op (HL.o _ K1.o) λw2 q2=>?_);have V:=qh (K1.o.below (Qt.below q2.o _));have T2:=qh (((aa.refl [a,g,q,u] w).drew).trans (aa.of_qt q2.o)))
          | (go_at_call 290;go_loud (refine Op (Sg.o _ V.o) λw3 b3=>?_);have K3:=qh (V.o.below b3.o);have T3:=qh (T2.o.trans (aa.of_below b3.o)))
          | (go_at_call 271;go_loud (refine Op (Ol.o _ K3.o) λw4 a4=>?_);have K4:=qh (K3.o.op a4.o.2 a4.o.1);have T4:=qh (T3.o.trans (a4.o.2.mono (T:=[a,g,q,u]) ahF));have I:=qh (K4.o.putS (p':={p with a:=v}) HP.o.1 (j:=1) (v:= J v) ahG rfl);have e1:=K4.o.sp.cell HP.o.1 1 _ rfl;have z1:=K4.o.sp.free (i*4+1)))
      all_goals have c4:=(H.o _ _ I.o).2.2;have e2:=I.o.sp.cell (i:=i) (p:={p with a:=v}) ail 2 _ rfl;have z2:=I.o.sp.free (i*4+2);have K6:=I.o.putS (i:=i) (p:={p with a:=v}) (p':={p with a:=v,b:=dl}) ail (j:=2) (v:= J dl) ahG rfl;simp only[List.set_set]at K6;have Sx:=qh K6;clear K6;go_wp2;go_ret;rw[HX.o,if_neg (λh=>h HV.o),if_pos HD.o];exact⟨rfl,by rw[show({({p with a:=v,b:=dl,pc:=2}:Sp)with pc:=p.pc}:Sp)={p with a:=v,b:=dl} from rfl];exact Sx.o,(T4.o.trans (d7 ⟨q,i*4+1,none⟩ _ rfl)).trans (d7 ⟨q,i*4+2,none⟩ _ rfl)⟩
    . have HD:=qh NA;go_enter func283,ntmps283;go_wp2_with fail
      go_region_held3 (λW=>W.cell? l=some ↑a/\Z W l 3 ↑u/\Z W l 4 (J dl))
        (first|with_reducible exact H.o _ _ K1.o|with_reducible exact H.o _ _ V.o|with_reducible exact H.o _ _ K3.o|with_reducible exact H.o _ _ K4.o|with_reducible exact H.o _ _ I.o)
        (first
          | (go_at_call 289;go_loud (refine Op (HL.o _ K1.o) λw2 q2=>?_);have V:=qh (K1.o.below (Qt.below q2.o _));have T2:=qh (((aa.refl [a,g,q,u] w).drew).trans (aa.of_qt q2.o)))
          | (go_at_call 290;go_loud (refine Op (Sg.o _ V.o) λw3 b3=>?_);have K3:=qh (V.o.below b3.o);have T3:=qh (T2.o.trans (aa.of_below b3.o)))
          | (go_at_call 271;go_loud (refine Op (Ol.o _ K3.o) λw4 a4=>?_);have K4:=qh (K3.o.op a4.o.2 a4.o.1);have T4:=qh (T3.o.trans (a4.o.2.mono (T:=[a,g,q,u]) ahF));have I:=qh (K4.o.putS (p':={p with a:=v}) HP.o.1 (j:=1) (v:= J v) ahG rfl);have e1:=K4.o.sp.cell HP.o.1 1 _ rfl;have z1:=K4.o.sp.free (i*4+1)))
      all_goals have c4:=(H.o _ _ I.o).2.2;have e2:=I.o.sp.cell (i:=i) (p:={p with a:=v}) ail 2 _ rfl;have z2:=I.o.sp.free (i*4+2);have K6:=I.o.putS (i:=i) (p:={p with a:=v}) (p':={p with a:=v,b:=0}) ail (j:=2) (v:= J 0) ahG rfl;simp only[List.set_set]at K6;have Sx:=qh K6;clear K6;go_wp2;go_ret;rw[HX.o,if_neg (λh=>h HV.o),if_neg (show ¬0<dl by have:=HD.o;omega)];exact⟨rfl,by rw[show({({p with a:=v,b:=0,pc:=3}:Sp)with pc:=p.pc}:Sp)={p with a:=v,b:=0} from rfl];exact Sx.o,(T4.o.trans (d7 ⟨q,i*4+1,none⟩ _ rfl)).trans (d7 ⟨q,i*4+2,none⟩ _ rfl)⟩
  . have t0:(v !=0)=true:=(by simpa using JO);have HV:=qh JO;clear JO;go_enter func283,ntmps283;go_wp2_with fail
    go_region_held3 (λW=>W.cell? l=some ↑a/\Z W l 3 ↑u/\Z W l 4 (J dl))
      (first|with_reducible exact H.o _ _ K1.o|with_reducible exact H.o _ _ V.o|with_reducible exact H.o _ _ K3.o|with_reducible exact H.o _ _ K4.o|with_reducible exact H.o _ _ I.o)
      (first
        | (go_at_call 289;go_loud (refine Op (HL.o _ K1.o) λw2 q2=>?_);have V:=qh (K1.o.below (Qt.below q2.o _));have T2:=qh (((aa.refl [a,g,q,u] w).drew).trans (aa.of_qt q2.o)))
        | (go_at_call 290;go_loud (refine Op (Sg.o _ V.o) λw3 b3=>?_);have K3:=qh (V.o.below b3.o);have T3:=qh (T2.o.trans (aa.of_below b3.o)))
        | (go_at_call 271;go_loud (refine Op (Ol.o _ K3.o) λw4 a4=>?_);have K4:=qh (K3.o.op a4.o.2 a4.o.1);have T4:=qh (T3.o.trans (a4.o.2.mono (T:=[a,g,q,u]) ahF));have I:=qh (K4.o.putS (p':={p with a:=v}) HP.o.1 (j:=1) (v:= J v) ahG rfl);have e1:=K4.o.sp.cell HP.o.1 1 _ rfl;have z1:=K4.o.sp.free (i*4+1)))
    all_goals go_wp2;go_ret;rw[HX.o,if_pos HV.o];exact⟨rfl,by rw[show({({p with a:=v,pc:=5}:Sp)with pc:=p.pc}:Sp)={p with a:=v} from rfl];exact I.o,T4.o.trans (d7 ⟨q,i*4+1,none⟩ _ rfl)⟩
end
end
section
open Go.RowKit
section
variable{g:Nat}{h:Hc}
def oK{S:List Sp}{p:Sp}(hp:S[i]? =some p):S.set i p=S:=by exact aai
def IO(k:bv w l a g q b u lo hi dl P T h)(i:Nat)(ab:i<T.length)(p:Sp)(O:h.S[i]? =some p)(I:1<=p.b/\p.b<=100000)(V:p.pc=2):E 284 #[↑l,J i] w (pF w l a g q b u lo hi dl P T h i p (bm (ac P).length T.length dl h (dk P T i) i p)):=by
  obtain⟨_,HN,_⟩:=k.n32;have LG:(i:Int)<T.length:=by omega
  have c5:=k.c5;have e2:=k.sp.cell O 2 _ rfl;have z2:=k.sp.free (i*4+2);obtain⟨JY,Ma⟩:=I
  have HX:Kq (bm (ac P).length T.length dl h (dk P T i) i p=(h.ar,h.D,{p with b:=p.b-1,pc:=if 0<p.b-1 then 2 else 3})):=qh (by
    unfold bm
    rw[if_neg ahE,if_pos V])
  have Y:=k.putS (p':={p with b:=p.b-1}) O (j:=2) (v:= J (p.b-1)) ahG rfl;have KH:=qh Y;have RA:=k.sp.lt;clear k O V Y;by_cases hg:0<p.b-1;. have H:=qh hg;go_enter func284,ntmps284;go_wp2;go_ret;rw[HX.o];exact⟨by rw[if_pos H.o];rfl,KH.o,d7 ⟨q,i*4+2,none⟩ _ rfl⟩
  . have H:=qh hg;go_enter func284,ntmps284;go_wp2;go_ret;rw[HX.o];exact⟨by rw[if_neg (by have:=H.o;omega)];rfl,KH.o,d7 ⟨q,i*4+2,none⟩ _ rfl⟩
def I0(k:bv w l a g q b u lo hi dl P T h)(i:Nat)(ad:i<T.length)(p:Sp)(hp:h.S[i]? =some p)(Y:h.ar.ops+1<=1000000000000)(V:p.pc=3):E 285 #[↑l,J i] w (pF w l a g q b u lo hi dl P T h i p (bm (ac P).length T.length dl h (dk P T i) i p)):=by
  obtain⟨_,HN,_⟩:=k.n32;have LG:(i:Int)<T.length:=by omega
  obtain⟨v,O⟩:=LE (ldW h.ar.W (2+(dk P T i:Int)));obtain⟨ab,hv⟩:=LE (ch h.ar (2+(dk P T i:Int)) 0)
  have HX:Kq (bm (ac P).length T.length dl h (dk P T i) i p=(ab,h.D,{p with c:=v,pc:=4})):=qh (by
    unfold bm
    rw[if_neg ahE,if_neg ahE,if_pos V,<-O,<-hv])
  have HL:=qh (λW (k:bv W l a g q b u lo hi dl P T h)=>Bh k i ad);have MG:=(λW (k:bv W l a g q b u lo hi dl P T h)=>fu k.ar (2+(dk P T i:Int)) 0 Y);rw[<-O,<-hv]at MG;have Ol:=qh MG;have H:=qh (λW (h:Hc) (k:bv W l a g q b u lo hi dl P T h)=>And.intro k.c0 k.c5);have K1:=qh (k.below ((Below.refl _ w).drew));have HP:=qh (And.intro hp V);clear MG k hp V O hv;go_enter func285,ntmps285;go_wp2_with fail
  go_region_held3 (λW=>W.cell? l=some ↑a/\Z W l 5 (slice (some ⟨q,0,none⟩) T.length T.length))
    (first|with_reducible exact H.o _ _ K1.o|with_reducible exact H.o _ _ K2.o|with_reducible exact H.o _ _ I.o|with_reducible exact H.o _ _ K5.o)
    (first
      | (go_at_call 289;go_loud (refine Op (HL.o _ K1.o) λw2 q2=>?_);have K2:=qh (K1.o.below (Qt.below q2.o _));have T2:=qh (((aa.refl [a,g,q,u] w).drew).trans (aa.of_qt q2.o)))
      | (go_at_call 271;go_loud (refine Op (Ol.o _ K2.o) λw4 a4=>?_);have I:=qh (K2.o.op a4.o.2 a4.o.1);have T4:=qh (T2.o.trans (a4.o.2.mono (T:=[a,g,q,u]) ahF));have K5:=qh (I.o.putS (p':={p with c:=v}) HP.o.1 (j:=3) (v:= J v) ahG rfl);have e1:=I.o.sp.cell HP.o.1 3 _ rfl;have z1:=I.o.sp.free (i*4+3)))
  all_goals go_wp2;go_ret;rw[HX.o];exact⟨rfl,K5.o,T4.o.trans (d7 ⟨q,i*4+3,none⟩ _ rfl)⟩
def D1(k:bv w l a g q b u lo hi dl P T h)(i:Nat)(ad:i<T.length)(p:Sp)(hp:h.S[i]? =some p)(Y:h.ar.ops+1<=1000000000000)(H':p.pc=4):E 286 #[↑l,J i] w (pF w l a g q b u lo hi dl P T h i p (bm (ac P).length T.length dl h (dk P T i) i p)):=by
  obtain⟨_,HN,_⟩:=k.n32;have LG:(i:Int)<T.length:=by omega
  have c5:=k.c5;obtain⟨v,O⟩:=LE (ldW h.ar.W 1);obtain⟨ab,hv⟩:=LE (ch h.ar 1 p.c)
  have HX:Kq (bm (ac P).length T.length dl h (dk P T i) i p=(ab,h.D,{p with a:=v,pc:=if v=0 then 10 else 5})):=qh (by
    unfold bm
    rw[if_neg ahE,if_neg ahE,if_neg ahE,if_pos H',<-O,<-hv])
  have MG:=(λW (k:bv W l a g q b u lo hi dl P T h)=>fu k.ar 1 p.c Y);rw[<-O,<-hv]at MG;have Ol:=qh MG;have HC:=qh (λW (h:Hc) (k:bv W l a g q b u lo hi dl P T h) (p':Sp) (hp:h.S[i]? =some p') (hc:p'.c=p.c)=>And.intro k.c0 (And.intro k.c2 (show W.cell? ⟨q,i*4+3,none⟩=some (J p.c)by rw[<-hc];exact k.sp.cell hp 3 _ rfl)));have K1:=qh (k.below ((Below.refl _ w).drew));have H:=qh (And.intro hp H');have UW:=k.sl;have W7:=qh UW;clear MG k hp H' O hv UW;by_cases I:v=0
  all_goals
    have t0:(v==0)=decide (v=0):=(by by_cases h:v=0<;>simp[h]);first| rw[decide_eq_true I]at t0| rw[decide_eq_false I]at t0
    have HV:=qh I;clear I;go_enter func286,ntmps286;go_wp2_with fail
    go_region_held3 (λW=>W.cell? l=some ↑a/\Z W l 2 (J 1)/\Z W q (i*4+3) (J p.c))
      (first|with_reducible exact HC.o _ _ K1.o p H.o.1 rfl|with_reducible exact HC.o _ _ V.o p H.o.1 rfl|with_reducible exact WA.o)
      (first
        | (go_at_call 271;go_loud (refine Op (Ol.o _ K1.o) λw4 a4=>?_);have V:=qh (K1.o.op a4.o.2 a4.o.1);have T4:=qh (((aa.refl [a,g,q,u] w).drew).trans (a4.o.2.mono (T:=[a,g,q,u]) ahF));have K5:=qh (V.o.putS (p':={p with a:=v}) H.o.1 (j:=1) (v:= J v) ahG rfl);have WA:=qh (HC.o _ _ K5.o {p with a:=v} (by simp[W7.o,ad]) rfl);have e1:=V.o.sp.cell H.o.1 1 _ rfl;have z1:=V.o.sp.free (i*4+1)))
    all_goals go_wp2;go_ret;rw[HX.o];first| exact⟨by rw[if_pos HV.o];rfl,K5.o,T4.o.trans (d7 ⟨q,i*4+1,none⟩ _ rfl)⟩| exact⟨by rw[if_neg HV.o];rfl,K5.o,T4.o.trans (d7 ⟨q,i*4+1,none⟩ _ rfl)⟩
def GW(k:bv w l a g q b u lo hi dl P T h)(i:Nat)(ab:i<T.length)(p:Sp)(hp:h.S[i]? =some p)(Y:h.ar.ops+1<=1000000000000)(ha:0<=p.a/\p.a<9223372036854775808)(O:p.pc=5):E 287 #[↑l,J i] w (pF w l a g q b u lo hi dl P T h i p (bm (ac P).length T.length dl h (dk P T i) i p)):=by
  obtain⟨_,HN,_⟩:=k.n32;have H:=k.nd;have Mh:u≠a:=by simp at H;omega
  have Mi:u≠g:=by simp at H;omega
  have LG:(i:Int)<T.length:=by omega
  have c3:=k.c3;have c5:=k.c5;have e1:=k.sp.cell hp 1 _ rfl;obtain⟨bb,V⟩:=LE (isB h.ar.W (2+((ac P).length:Int)) T.length p.a)
  have HX:Kq (bm (ac P).length T.length dl h (dk P T i) i p=(isA h.ar (2+((ac P).length:Int)) T.length p.a,h.D,{p with pc:=if bb then 10 else 5})):=qh (by
    unfold bm
    rw[if_neg ahE,if_neg ahE,if_neg ahE,if_neg ahE,if_pos O,<-V])
  have I:=k.below ((Below.refl _ w).drew);have R8:=isU I.ar I.tu Mh Mi p.a ha.1 ha.2 Y;rw[<-V]at R8;have HI:=qh R8;have Xl:=qh I;have HP:=qh (And.intro hp O);clear k hp O R8 I H Mh Mi V ha;go_enter func287,ntmps287;go_wp2_with fail;refine wp_region_still_tail 12 ahH ahH ?_;refine akj ?_;change wpStill _ _ (World.drew _) _ _ _;repeat still_step
  refine wpStill_nil ?_;change wpList _ _ _ _ _ (World.drew w);go_wp2_with fail;refine Op HI.o λw2 a2=>?_;have K2:=qh (Xl.o.op a2.o.2 a2.o.1);have T2:=qh (((aa.refl [a,g,q,u] w).drew).trans (a2.o.2.mono (T:=[a,g,q,u]) ahF));cases bb;all_goals go_wp2;go_ret;rw[HX.o];refine⟨rfl,?_,T2.o⟩;have e:h.S.set i ({({p with pc:=0}:Sp)with pc:=p.pc}:Sp)=h.S:=oK HP.o.1;rw[show ∀x:Int,({({p with pc:=x}:Sp)with pc:=p.pc}:Sp)=p from λ_=>rfl,oK HP.o.1];exact K2.o
def GA(k:bv w l a g q b u lo hi dl P T h)(i:Nat)(V:i<T.length)(p:Sp)(hp:h.S[i]? =some p)(Y:h.ar.ops+1<=1000000000000)(hd:0<=dv h.D i/\dv h.D i<1000000000)(H':p.pc=11):E 288 #[↑l,J i] w (pF w l a g q b u lo hi dl P T h i p (bm (ac P).length T.length dl h (dk P T i) i p)):=by
  have H:=k.nd;have Mh:u≠a:=by simp at H;omega
  have Mi:u≠g:=by simp at H;omega
  have VL:q∉[a,g,u]:=by simp at H ⊢;omega
  have c3:=k.c3
  have HX:Kq (bm (ac P).length T.length dl h (dk P T i) i p=(addA h.ar (2+((ac P).length:Int)+i) 1,h.D.set i (dv h.D i+1),{p with pc:=0})):=qh (by
    unfold bm
    rw[if_neg ahE,if_neg ahE,if_neg ahE,if_neg ahE,if_neg ahE])
  have HI:=qh (Gx k.ar k.tu Mh Mi i V hd Y);have O:=qh (And.intro k VL);have HP:=qh hp;clear k hp H' H Mh Mi VL;go_enter func288,ntmps288;go_wp2_with fail;refine Op HI.o λw2 I=>?_;have K2:=qh (And.intro (O.o.1.next (I.o.2.2.mono (T:=[a,g,q,u]) ahF) I.o.1 (O.o.1.sp.turns I.o.2.2 O.o.2) I.o.2.1 O.o.1.sl) (I.o.2.2.mono (T:=[a,g,q,u]) ahF));go_wp2;go_ret;rw[HX.o];refine⟨rfl,?_,K2.o.2⟩;rw[show({({p with pc:=0}:Sp)with pc:=p.pc}:Sp)=p from rfl,oK HP.o];exact K2.o.1
end
end
section
open Go.RowKit
def Eg(h:Hc):Prop:=h.ar.ops+1<=1000000000000/\∀j p,h.S[j]? =some p->(0<=dv h.D j/\dv h.D j<1000000000)/\(p.pc=2->1<=p.b/\p.b<=100000)/\(p.pc=5->0<=p.a/\p.a<9223372036854775808)
section
variable{g:Nat}{h:Hc}
def FY(k:bv w l a g q b u lo hi dl P T h)(i:Int)(C:Eg h):E 280 #[↑l,J i] w (HOp w l a g q b u lo hi dl P T (eX (ac P).length T.length dl (dk P T) h i)):=by
  have KE:=aM;have H:=qh k;obtain⟨_,HN,_⟩:=k.n32;have Jy:=k.sl;obtain⟨Y,SZ⟩:=C;obtain⟨p,hp⟩:=LE (getS h.S i);have HP:=qh hp;by_cases hc:okI h.S i/\im p=true
  . obtain⟨V,hg⟩:=hc;have I:=dG V;rw[<-hp]at I;obtain⟨hd,Ma,SP⟩:=SZ _ _ I;obtain⟨h0,h9⟩:=id V;obtain⟨n,rfl⟩:=Int.eq_ofNat_of_zero_le h0;simp only[Int.toNat_natCast]at I hd;rw[Jy]at h9;have hn:n<T.length:=(by omega);have Oy:(n:Int)<T.length:=(by omega);obtain⟨y,hy⟩:=LE (bm (ac P).length T.length dl h (dk P T n) n p)
    have HS:Kq (eX (ac P).length T.length dl (dk P T) h n=(⟨y.1,y.2.1,h.S.set n y.2.2⟩,decide (y.2.2.pc=10\/y.2.2.pc=0))):=qh (by
      unfold eX;rw[<-HP.o,if_pos ⟨V,hg⟩];simp only[Int.toNat_natCast]
      rw[hy])
    rcases sx.1 hg with e|e|e|e|e|e
    all_goals
      first| have O:=λW (k:bv W l a g q b u lo hi dl P T h)=>FV k n hn p I Y hd e| have O:=λW (k:bv W l a g q b u lo hi dl P T h)=>IO k n hn p I (Ma e) e| have O:=λW (k:bv W l a g q b u lo hi dl P T h)=>I0 k n hn p I Y e| have O:=λW (k:bv W l a g q b u lo hi dl P T h)=>D1 k n hn p I Y e| have O:=λW (k:bv W l a g q b u lo hi dl P T h)=>GW k n hn p I Y (SP e) e| have O:=λW (k:bv W l a g q b u lo hi dl P T h)=>GA k n hn p I Y hd e
      rw[<-hy]at O;have HM:=qh O;first|(have u1:(p.pc==1)=true:=by simp[e])|(have u1:(p.pc==1)=false:=by simp[e])
      first|(have u2:(p.pc==2)=true:=by simp[e])|(have u2:(p.pc==2)=false:=by simp[e])
      first|(have u3:(p.pc==3)=true:=by simp[e])|(have u3:(p.pc==3)=false:=by simp[e])
      first|(have u4:(p.pc==4)=true:=by simp[e])|(have u4:(p.pc==4)=false:=by simp[e])
      first|(have u5:(p.pc==5)=true:=by simp[e])|(have u5:(p.pc==5)=false:=by simp[e])
      first|(have u6:(p.pc==11)=true:=by simp[e])|(have u6:(p.pc==11)=false:=by simp[e])
      have HG:=qh I;clear k hp I h0 h9 V hg hd Ma SP SZ hy O e Jy;go_enter func280,ntmps280;go_wp2_with fail;refine Pi (xd H.o n) λw1 b1=>?_;refine ajA ?_;intro H1;clear b1;go_wp2_with fail;refine(HM.o _ H1.o.1).mono ?_;rintro en w2 ⟨rfl,K2,t2⟩;have KM:(h.S.set n {y.2.2 with pc:=p.pc})[n]? =some {y.2.2 with pc:=p.pc}:=(by have:=(List.getElem?_eq_some_iff.1 HG.o).1;simp[this]);have c5:=K2.c5;have d0:=ST (K2.sp.cell KM 0 _ rfl);have f0:=K2.sp.free (n*4);have hq:=K2.sp.lt;have K3:=K2.putS KM (j:=0) (v:= J y.2.2.pc) (p':=y.2.2) ahG rfl;simp only[Nat.add_zero,List.set_set]at K3;have H2:=qh (And.intro K3 (((aa.of_below H1.o.2).trans t2).trans (d7 ⟨q,n*4,none⟩ (J y.2.2.pc) rfl)));clear K2 t2 KM K3;cases z1:(y.2.2.pc==10)
      . cases z0:(y.2.2.pc==0);. have HD:Kq (decide (y.2.2.pc=10\/y.2.2.pc=0)=false):=qh aih;go_wp2;go_ret;rw[HS.o];exact⟨aA HD.o.symm,H2.o.1,H2.o.2⟩
        . have HD:Kq (decide (y.2.2.pc=10\/y.2.2.pc=0)=true):=qh aij;go_wp2;go_ret;rw[HS.o];exact⟨aA HD.o.symm,H2.o.1,H2.o.2⟩
      . have HD:Kq (decide (y.2.2.pc=10\/y.2.2.pc=0)=true):=qh aii;go_wp2;go_ret;rw[HS.o];exact⟨aA HD.o.symm,H2.o.1,H2.o.2⟩
  . have HS:Kq (eX (ac P).length T.length dl (dk P T) h i=(h,false)):=qh (by unfold eX;rw[<-hp,if_neg hc])
    have hz:im p=false:=by
      by_cases V:okI h.S i
      . cases hg:im p;. rfl
        . exact absurd ⟨V,hg⟩ hc
      . rw[hp,dz V];rfl
    unfold im at hz;simp only[Bool.or_eq_false_iff]at hz;obtain⟨⟨⟨⟨⟨u1,u2⟩,u3⟩,u4⟩,u5⟩,u6⟩:=hz;clear k hp hc SZ Jy;go_enter func280,ntmps280;go_wp2_with fail;refine Pi (xd H.o i) λw1 b1=>?_;refine ajA ?_;intro H1;clear b1;go_wp2;go_ret;rw[HS.o];exact⟨rfl,H1.o.1,aa.of_below H1.o.2⟩
end
end
section
open Go.RowKit
theorem Tryz.infoSp:(prog.info? 113).map (λi=>(i.zero,i.size,i.bytes))=some (some (agg #[J 0,J 0,J 0,J 0]),4,32):=by kernel_rfl
def jF(u:Value)(n:Nat):(madeCells #[u,u,u,u] n).toList=List.replicate n u:=by exact aaw
def lY(n:Nat):(List.replicate n Sp.zero).flatMap bf=List.replicate (n*4) (J 0):=by exact aax
def hc0(s:Ar)(nd n:Nat):Hc:=⟨{s with W:=List.replicate (1+nd+n) 0},List.replicate 32 0,List.replicate n Sp.zero⟩
def EJ(w:World)(a g:Nat)(s:Ar)(d:Int)(P T:List Int)(e:Ending)(w':World):Prop:=
 ∃l q b u lo hi,e= returned (tuple #[pointer (some ⟨l,0,none⟩),J 0])/\bv w' l a g q b u lo hi d P T (hc0 s (ac P).length T.length)/\w.heap.size<=l/\w.heap.size<=q/\w.heap.size<=b/\w.heap.size<=u/\aa [a] w w'/\w.heap.size<=lo
def FE{g:Nat}{s:Ar}(h:aB w a g s)(hs:s.W=[])(KU:a≠g)(vP vT:Value)(P T:List Int)(hP:RdL w vP 1 encI P)(hT:RdL w vT 1 encI T)(hc:a8 P T=0)(d:Int)(Mb:0<=d)(hd1:d<=1000)(V:s.room=4096):E 105 #[↑a,agg #[vP,vT],J d] w (EJ w a g s d P T):=by
  obtain⟨i0,hi,JF,JH,ab⟩:=info_parts Tryz.infoSp;have J5:=bi (aQ hc).1;have MI:(ac P).length<=32:=by exact aay
  refine ajB ?_;intro KL KZ LA Lr;obtain⟨nd,O⟩:=LE ((ac P).length);have Lz:=qh O;rw[<-O]at MI;have H:=qh (And.intro h (And.intro KL KZ));have HN:=qh (gX (w.alloc (cells #[vP,vT] 24)) vP vT P T (hP.alloc _) (hT.alloc _) hc);have Np:=λlo W b h=>FI lo W b P T hc h;rw[<-O]at Np;have WO:=qh Np;have HS:=qh (And.intro hs V);have HR:=qh (λW=>oI d W Mb hd1);refine ake ?_;intro JV B0;have x1:IntKind.i64.wrap (1+(nd:Int))=1+nd:=IntWalk.i64_in _ ahE;clear h hs hP hT Mb hd1 V J5 Np O KL KZ;go_enter func105,ntmps105;go_wp2_with fail;refine HN.o.mono ?_;rintro en w1 ⟨b,rfl,I,t1,b1⟩;rw[JV]at I t1 b1;have K1:=qh (And.intro t1 (B0.o.trans (b1.mono ahE)));have HB:=qh I;clear t1 b1 I HN;go_wp2_with fail;refine LT (HR.o _) ?_;go_wp2_with fail;refine Op (WO.o _ _ _ K1.o.1) λw2 t2=>?_;have Ju:=K1.o.2.size;have Jx:=t2.o.2.size;have T2:aa [] w w2:=((aa.of_below (S:=[b]) K1.o.2).trans t2.o.2).fresh (by have:=HB.o;simp;omega);have A2:=H.o.1.turns T2 ahF ahF;have K2:=qh (And.intro t2.o.1 (And.intro T2 (And.intro A2 (Nat.le_trans Ju Jx))));clear Ju Jx T2 A2;go_wp2_with fail
  have HT:Kq (dX s (1+(nd:Int))=({s with W:=List.replicate (1+nd) 0},(1:Int),(0:Int))):=qh (by
    unfold dX
    rw[HS.o.1,HS.o.2,if_neg ahE,if_neg ahJ,show(1+(nd:Int)).toNat=1+nd by omega];rfl)
  refine(gn K2.o.2.2.1 (1+(nd:Int))).mono ?_;rintro en w3 ⟨rfl,k3,t3⟩;rw[HT.o]at k3 ⊢;have Kp:=t3.size;have Q3:ly (w.heap.size+1) w2.heap.size w3 b P T:=K2.o.1.keep (λi h1 h2=>t3.block i h2 (by have:=H.o.2.1;simp;omega)) Kp;have K3:=qh (And.intro Q3 (And.intro (K2.o.2.1.mono (T:=[a]) ahF |>.trans t3) (And.intro k3 (Nat.le_trans K2.o.2.2.2 Kp))));have RE:=qh Kp;clear k3 t3 Q3 Kp;go_wp2_with fail;refine LT (dY _ _ _ _ K3.o.1.f.tab) ?_;go_wp2_with fail;refine(I9 K3.o.2.2.1 T.length LA Lr (by have:=HS.o.2;simp;omega)).mono ?_;rintro en w4 ⟨u,rfl,hu,k4,v4,t4⟩;have LL:=t4.size;have Ki:=K3.o.1.high;have Q4:ly (w.heap.size+1) w2.heap.size w4 b P T:=K3.o.1.keep (λi h1 h2=>t4.block i (by have:=RE.o;omega) (by have:=H.o.2.1;simp;omega)) (by have:=RE.o;omega);have Y:=qh (And.intro Q4 (And.intro (K3.o.2.1.trans t4) (And.intro k4 (And.intro v4 (And.intro (show w3.heap.size<=u from hu) (show w3.heap.size<=w4.heap.size from LL))))));have H4:=qh (show w2.heap.size<=w4.heap.size by have:=RE.o;omega);clear k4 v4 t4 Q4 LL hu;go_wp2_with fail;refine LT (dY _ _ _ _ Y.o.1.f.tab) ?_;go_wp2_with (refine wpList_make_full _ rfl (.tmp 52) (.tmp 52) 237 rfl w4.heap.size 113 i0 (agg #[J 0,J 0,J 0,J 0]) 4 Tryz.underlying237 hi JF JH .i64 .i64 T.length T.length T.length rfl rfl rfl rfl ?b2 ?b3 (Nat.le_refl _) ?_);case b2=>rw[ab];omega
  case b3=>unfold maxLen;omega
  intro w5 r' hg;have I:dy w5 w4.heap.size (List.replicate T.length Sp.zero):=by exact aaz
  have t5:aa [] w4 w5:=aa.of_below ((Below.refl w4.heap.size w4).grown hg (Nat.le_refl _) (λj hj=>by cases hj));have MU:=I.lt;have H5:=qh (And.intro I t5);clear r' hg I t5;go_wp2;go_ret2;have t6:aa [] w4 (w5.alloc (cells #[↑a,pointer (some ⟨b,0,none⟩),J 1,↑u,J d,slice (some ⟨w4.heap.size,0,none⟩) T.length T.length] 260)):=H5.o.2.alloc _;have ad:=RE.o;have al:=Y.o.2.2.2.2.2;have ax:=Y.o.2.2.2.2.1;have bc:=K2.o.2.2.2;have Ms:=HB.o;have OG:=Y.o.2.2.2.1.blk.lt;have M6:=H.o.2.1;have NC:=H.o.2.2;have Wh:w5.heap.size+1=(w5.alloc (cells #[↑a,pointer (some ⟨b,0,none⟩),J 1,↑u,J d,slice (some ⟨w4.heap.size,0,none⟩) T.length T.length] 260)).heap.size:=by simp
  have k6:=Y.o.2.2.1.turns t6 ahF ahF;have u6:=Y.o.2.2.2.1.turns t6 ahF;have e1:(List.replicate (1+nd) (0:Int))++List.replicate T.length 0=List.replicate (1+(ac P).length+T.length) 0:=by rw[List.replicate_append_replicate,<-Lz.o]
  refine⟨w5.heap.size,w4.heap.size,b,u,w.heap.size+1,w2.heap.size,rfl,⟨?_,?_,?_,?_,?_,?_,?_,?_,?_⟩,?_,?_,?_,?_,?_,by omega⟩;. unfold hc0;rw[<-e1];exact k6
  . exact Blk.new w5 _ _
  . exact H5.o.1.turns (T:=[]) ((aa.refl _ _).alloc _) ahF
  . have:(((List.replicate (1+nd) (0:Int)).length:Int)+1)=2+((ac P).length:Int):=(by rw[<-Lz.o];simp;omega);rw[<-this];exact u6
  . exact Y.o.1.keep (λi h1 h2=>t6.block i ahE ahF) (by rw[<-Wh];omega)
  . simp[hc0]
  . omega
  . simp;omega
  . simp;omega
  . omega
  . omega
  . omega
  . omega
  . exact Y.o.2.1.trans (t6.mono ahF)
end
section
open Go.RowKit
def iD.upAt(h:iD w b P T)(Y:T[k]? =some x):∃b1 o1 H A c,Z w b 5 (slice (some ⟨b1,o1,none⟩) T.length H)/\Z w b1 (o1+k) (.slice A (upL P x).length c)/\RdL w (.slice A (upL P x).length c) 1 encI (upL P x)/\T.length<=H/\b1<w.heap.size:=by obtain⟨AP,cP,AT,cT,vU,vN,vS,vM,us,h1,h2,h3,h4,h5,h6,h7,h8,h9⟩:=h.ex;have hk:=(List.getElem?_eq_some_iff.1 Y).1;obtain⟨v,O⟩:=ak (show k<us.length by omega);have V:=h9 k x v Y O;obtain⟨A,c,rfl,_,_⟩:=cJ V;obtain⟨AU,cU,rfl,m1,m2,m3⟩:=h7;obtain⟨b1,o1,rfl,I,hc⟩:=m3 ahE;have c5:=h1.cell 5;simp only[fe,h8]at c5;exact⟨b1,o1,cU,A,c,c5,by simpa using hc k _ O 0 _ rfl,V,by omega,I⟩
end
end Go.Proofs.YtglokdbiggbkjaaGreat
