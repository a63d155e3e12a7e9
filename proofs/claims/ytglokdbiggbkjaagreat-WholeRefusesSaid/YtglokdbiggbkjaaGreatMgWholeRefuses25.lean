/- Joined texts. -/
import Derived.Deep.RegionHeld3
import Derived.Deep.DeepCutAuto
import Derived.BigRegion
import Derived.Test.YtglokdbiggbkjaaGreatMgWholeRefuses0
import Derived.Test.YtglokdbiggbkjaaGreatMgWholeRefuses1
import Derived.Test.YtglokdbiggbkjaaGreatMgWholeRefuses3
import Derived.Test.YtglokdbiggbkjaaGreatMgWholeRefuses5
import Derived.Test.YtglokdbiggbkjaaGreatMgWholeRefuses11
set_option linter.unusedVariables false
set_option linter.unusedSimpArgs false
set_option linter.defProp false
set_option maxRecDepth 100000
set_option maxHeartbeats 16000000
open Go.Proofs.Tryz
namespace Go.Proofs.YtglokdbiggbkjaaGreat
open Go.IntKind(i64)
open Go.Value(int bool slice agg tuple pointer)
open Go.Ending(returned)
open Go.Obj(cells)
variable{g n sb ab N i:Nat}{w w':World}{S:List Nat}{L L':List (Int×Bool)}{x y:Int×Bool}
section
open Go Go.RowKit Go.Maps
def zQ(w:World)(t:TypeId)(u:Value)(hg:g=w.heap.size):∀j x,[u][j]? =some x->(w.alloc (cells #[u] t)).cell? ((⟨g,0,none⟩:Addr).add j)=some x:=by
 intro j x H;subst hg;have h:(⟨w.heap.size,0,none⟩:Addr).add j=⟨w.heap.size,j,none⟩:=by unfold Addr.add;split<;>simp_all
 rw[h,cell_of_row (w.alloc _) w.heap.size j _ _ (0,0) (heap_alloc_new w _)];simpa using H
def F5{a:Nat}{s:Ar}(h:aB w a g s):E 64 #[↑a] w λe w'=>∃v,e= returned v/\RdL w' v 1 encI s.W/\(∀q,v.ownBlock=some q->w.heap.size<=q)/\Below w.heap.size w w':=by
  obtain⟨i0,hi,JF,JH,ab⟩:=info_parts Tryz.infoIn;have Ow:=h.le;have NH:=h.room;have H:=qh h;have c0:=h.c0;have M6:=h.blk.lt;clear h;go_enter func64,ntmps64;go_wp2_with fail;refine LT (mU H.o) ?_;go_wp2;go_loopw [3,7] (λv i wr=>∃(k:Nat),i= J k/\k<=s.W.length/\wr.ownsRow w.heap.size 3 1 v k ((s.W.take k).flatMap encI)/\Below w.heap.size w wr) (λ_ i _=>s.W.length-(intOf i).toNat);case atStart=>exact⟨0,rfl,by omega,World.ownsRow_nil _ _ _ _,Below.refl _ _⟩
  case round=>
    obtain⟨k,rfl,hk,O,I⟩:=hrel;have Y:=H.o.turns (S:=[]) (aa.of_below I) ahF ahF;by_cases I':k<s.W.length
    . obtain⟨A',cp,rfl⟩:=bO O;have c1:=Y.c0;have Pp:=(Y.word (i:=k) I').1;have J0:=I.size;have ad:(k:Int)<s.room:=(by omega);have V:=qh (And.intro I Y);obtain⟨z,hz⟩:=LE (s.W.getD k 0);rw[<-hz]at Pp;have J3:s.W[k]? =some z:=(by rw[hz,List.getD_eq_getElem?_getD,List.getElem?_eq_getElem I'];rfl);have HZ:=qh J3;have Xh:=qh Pp;clear I Y hz J3 Pp c0;go_wp2_with fail;refine LT (Em _ _ z Xh.o rfl) ?_;go_wp2_with (at_builtin;refine wpList_append_own _ rfl _ _ 22 rfl w.heap.size 3 i0 (J 0) 1 8 Tryz.underlying22 hi JF JH ab rfl ahG _ _ _ rfl (O.alloc _) ⟨wr.heap.size,0,none⟩ 1 1 (encI z) rfl rfl (zQ wr 3 (J z) rfl) (by intro u hu;simp[encI]at hu;subst hu;rfl) ?c3 ?c4 ?c5 ?_);case c3=>unfold maxLen;omega
      case c4=>omega
      case c5=>simp;omega
      intro v' w2 h2 KM _;have h3:w2.ownsRow w.heap.size 3 1 v' (k+1) ((s.W.take (k+1)).flatMap encI):=(by rw[cj HZ.o,List.flatMap_append];simpa using h2);have HF:=qh (And.intro h3 ((V.o.1.alloc J0 (cells #[J z] 3)).grown KM ahJ (λj hj=>(O.lt j hj).1)));clear h2 KM h3 O;go_wp2;go_roundw;case rel=>first|exact⟨k+1,by go_num,by omega,HF.o.1,HF.o.2⟩|((repeat apply Exists.intro);exact⟨⟨k+1,by go_num,by omega,HF.o.1,HF.o.2⟩,rfl⟩)
      case measure=>simp[intOf];omega
    . obtain rfl:k=s.W.length:=by omega
      rw[List.take_length]at O;have V:=qh (And.intro O I);clear O I Y;go_wp2;go_ret;exact⟨_,rfl,RdL.of_own so rfl ahE V.o.1,λq hq=>(V.o.1.lt q hq).1,V.o.2⟩
def RdL.farT{α:Type}{v:Value}{sz:Nat}{enc:α->List Value}{l:List α}(h:RdL w v sz enc l)(t:aa S w w')(O:∀q,v.ownBlock=some q->q∉S):RdL w' v sz enc l:=by obtain⟨A,cap,h1,H,V,Y⟩:=h;refine⟨A,cap,h1,H,V,λhn=>?_⟩;obtain⟨b,off,e,I,hc⟩:=Y hn;refine⟨b,off,e,Nat.lt_of_lt_of_le I t.size,λi x hx j u hu=>(t.cellC I (O b (by rw[h1,e];rfl))).trans (hc i x hx j u hu)⟩
section
variable{M:LkM n}{X:WoB M}{st st':M.σ}
theorem Ct(G:M.Good)(h:WoIs X w st):E 24 #[lkP X.wb] w λe w'=>∃v,e= returned v/\RdL w' v 1 encI (M.ar st).W/\(∀q,v.ownBlock=some q->w.heap.size<=q)/\Below w.heap.size w w':=by have c2:=h.wd.cell 0;have H:=qh (F5 (G.ais _ _ _ _ _ _ h.is));unfold lkP at *;clear h;go_enter func24,ntmps24;go_wp2_with fail;refine H.o.mono ?_;rintro en w' ⟨v,rfl,O⟩;have I:=qh O;clear O;go_wp2;go_ret;exact⟨v,rfl,I.o⟩
end
end
section
open Go Go.RowKit
section
def zt(h:gc w sb ab L):E 68 #[↑sb] w λe w'=>e= returned (slice (some ⟨ab,0,none⟩) L.length L.length)/\w=w':=by have c0:=h.lk.cell 0;clear h;go_enter func68,ntmps68;exact aaa
def Do(h:gc w sb ab L)(hw:∀i:Nat,L[i]?≠some (2,false)):E 179 #[slice (some ⟨ab,0,none⟩) L.length L.length,agg #[J 2,bool false]] w λe w'=>e= returned (J (-1))/\Below w.heap.size w w':=by
  have Y:=qh h;have HW:=qh hw;have hn:=h.n32;have b1:=(Below.refl w.heap.size w).alloc (Nat.le_refl _) (cells #[J 2,bool false] 129);have HX:=qh (And.intro b1 (Blk.new w 129 #[J 2,bool false]));obtain⟨w0,I⟩:=LE (w.alloc (cells #[J 2,bool false] 129));rw[<-I]at HX;have Kh:=qh I;clear h hw b1 I;go_enter func179,ntmps179;go_wp2;rw[<-Kh.o];go_loopw [5,8] (λ_ i wr=>∃k:Nat,k<=L.length/\i= J k/\Qt w0 wr) (λ_ i _=>L.length-(intOf i).toNat);case atStart=>exact⟨0,by omega,rfl,Qt.refl _⟩
  case round=>
    obtain⟨k,hk,rfl,⟨m,rfl⟩⟩:=hrel;by_cases I':k<L.length
    . obtain⟨⟨s,r⟩,V⟩:=ak I';have hc:=((Y.o.below HX.o.1).cell V);have H:=HW.o k;rw[V]at H;obtain⟨c0,c1⟩:=hc;have d0:=HX.o.2.cell 0;have d1:=HX.o.2.cell 1;clear V;by_cases O:s=2
      . obtain rfl:r=true:=by cases r;exact absurd (by rw[O]) H;rfl
        subst O;clear H;go_wp2;go_quiet (fail);go_wp2;go_roundw;case rel=>exact⟨k+1,by omega,by go_num,⟨m+nq,by first|rfl|rw[World.drewN_drewN]⟩⟩
        case measure=>simp[intOf];omega
      . have u:((2:Int)==s)=false:=(by rw[beq_eq_false_iff_ne];omega);clear H O;go_wp2;go_quiet (fail);go_wp2;go_roundw;case rel=>exact⟨k+1,by omega,by go_num,⟨m+nq,by first|rfl|rw[World.drewN_drewN]⟩⟩
        case measure=>simp[intOf];omega
    . obtain rfl:k=L.length:=by omega
      go_wp2;go_ret;exact⟨rfl,cl HX.o.1 _⟩
def Cy(h:gc w sb ab L)(hw:∀i:Nat,L[i]?≠some (2,false)):E 158 #[↑sb] w λe w'=>e= returned (J (-1))/\Below w.heap.size w w':=by have I:=qh (zt h);have O:=qh (Do h hw);clear h hw;go_enter func158,ntmps158;go_wp2_with fail;refine LT I.o ?_;go_wp2_with fail;refine Op O.o λw2 H=>?_;go_wp2;go_ret;exact⟨rfl,H.o⟩
def yF(h:gc w sb ab L)(hw:∀i:Nat,L[i]?≠some (2,true)):E 159 #[↑sb] w λe w'=>e= returned (J 0)/\Below w.heap.size w w':=by
  have HA:=qh (zt h);have HH:=qh h;have HW:=qh hw;have hn:=h.n32;clear h hw;go_enter func159,ntmps159;go_wp2_with fail;refine LT HA.o ?_;go_wp2;go_loopw [3,5,9] (λo _ i wr=>∃k:Nat,k<=L.length/\i= J k/\o= J 0/\Below w.heap.size w wr) (λ_ _ i _=>L.length-(intOf i).toNat);case atStart=>exact⟨0,by omega,rfl,rfl,Below.refl _ _⟩
  case round=>
    obtain⟨k,hk,rfl,rfl,I⟩:=hrel;obtain⟨wo,rfl⟩:∃wo:World,wo=wr:=⟨_,rfl⟩;have O:=qh I;clear I;by_cases I':k<L.length
    . obtain⟨⟨s,r⟩,Y⟩:=ak I';have hc:=((HH.o.below O.o).cell Y);have H:=HW.o k;rw[Y]at H;obtain⟨c0,c1⟩:=hc;have MD:=qh (O.o.alloc O.o.size (cells #[J s,.bool r] 129));clear Y;by_cases V:s=2
      . obtain rfl:r=false:=by cases r;rfl;exact absurd (by rw[V]) H
        subst V;clear H;go_wp2;go_roundw;case rel=>exact⟨k+1,by omega,by go_num,rfl,MD.o⟩
        case measure=>simp[intOf];omega
      . have u:(s==(2:Int))=false:=(by rw[beq_eq_false_iff_ne];omega);clear H V;go_wp2;go_roundw;case rel=>exact⟨k+1,by omega,by go_num,rfl,MD.o⟩
        case measure=>simp[intOf];omega
    . obtain rfl:k=L.length:=by omega
      go_wp2;go_ret;exact⟨rfl,O.o⟩
def At(h:gc w sb ab L)(r:Bool)(hw:∀i:Nat,L[i]?≠some (2,false))(V:r=false->∀i:Nat,L[i]?≠some (2,true)):E 114 #[↑sb,.bool r] w λe w'=>e= returned (J 0)/\Below w.heap.size w w':=by
  have I:=qh (Cy h hw);have H:=qh (λW (b:Below w.heap.size w W) (q:r=false)=>yF (h.below b) (V q));clear h hw V;cases r;. replace H:=qh (λW b=>H.o W b rfl);go_enter func114,ntmps114;go_wp2_with fail;refine Op I.o λw1 B1=>?_;go_wp2_with fail;refine Op (H.o _ B1.o) λw2 b2=>?_;have O:=qh (B1.o.trans (b2.o.mono B1.o.size));go_wp2;go_ret;exact⟨rfl,O.o⟩
  . clear H;go_enter func114,ntmps114;go_wp2_with fail;refine Op I.o λw1 B1=>?_;go_wp2;go_ret;exact⟨rfl,B1.o⟩
end
end
section
open Go Go.RowKit
def dQ{P:Program}{I:Func}{p u:Tmp}{ty:TypeId}(h:I.results=#[.cell p ty,.tmp u])(H:Array Value)(w:World)(g:Nat)(t:TypeId)(cs:Array Value)(fr:Nat×Nat)(d:TypeDesc)(V:H.getD p undef= ↑g)(hg:w.heap[g]? =some (.cells cs t fr))(Y:P.underlying ty=some d)(hd:(match d with|.struct _|.array _ _=>true|_=>false)=true)(hi:(P.info? ty).map (·.size)=some cs.size):(results I H).run P w= .ok (tuple #[.agg cs,H.getD u undef]) w:=by
  have O:H[p]?.getD undef= ↑g:=by simpa using V
  simp[results,h,O,asAddr,run_loadVar_row w g t ty cs fr d hg Y hd hi]
inductive kw(L:List (Int×Bool)):Ev->List (Int×Bool)->Prop
 |none (k t:Int) (r:Bool) (c:Int) (h:k=0\/k=5):kw L ⟨k,t,r,c⟩ L
 |ask (i:Nat) (r q:Bool) (c:Int) (h:L[i]? =some (0,q)):kw L ⟨1,i,r,c⟩ (L.set i (1,r))
 |enter (i:Nat) (r:Bool) (c:Int) (h:L[i]? =some (1,r)) (hw:∀j:Nat,L[j]?≠some (2,false)) (V:r=false->∀j:Nat,L[j]?≠some (2,true)):kw L ⟨2,i,r,c⟩ (L.set i (2,r))
 |exit (i:Nat) (r:Bool) (c:Int) (h:L[i]? =some (2,r)):kw L ⟨3,i,r,c⟩ (L.set i (3,r))
 |rest (i:Nat) (r:Bool) (c:Int) (h:L[i]? =some (3,r)):kw L ⟨4,i,r,c⟩ (L.set i (0,false))
section
def Fs(i c:Int)(r q:Bool):E 69 #[↑sb,agg #[J 0,.bool q],agg #[J 1,J i,.bool r,J c]] w λe w'=>e= returned (tuple #[agg #[J 1,.bool r],J 0])/\Below w.heap.size w w':=by
  obtain⟨w0,C'⟩:=LE (((w.alloc (cells #[J 0,.bool q] 129)).alloc (cells #[J 1,J i,.bool r,J c] 55)).alloc (cells #[J 0,bool false] 129));refine ajo ?_;intro I;have k1:Blk w0 w.heap.size 129 #[J 0,.bool q]:=by rw[C'];exact((Blk.new w _ _).alloc _).alloc _
  have k2:Blk w0 (w.heap.size+1) 55 #[J 1,J i,.bool r,J c]:=by rw[C'];exact(Blk.new' _ _ _ ahF).alloc _
  refine ai9 ?_;intro k3 HE Kh c0 c1 d0 d2;clear C' I k1 k2 k3;go_enter func69,ntmps69;go_upto_region 1 with fail;rw[<-Kh.o];have O:=HE.o.2.free 0;have V:=HE.o.2.free 1;have h:=HE.o.2.cell 0;have H:=HE.o.2.cell 1;go_wp2;exact bodyPost_ret (dQ ahI _ _ (w.heap.size+2) 129 _ (0,0) _ ahI aiH Tryz.underlying129 rfl ahH) rfl ⟨rfl,(HE.o.1.setCell ah5 _).setCell ah5 _⟩
def Ft(r:Bool)(h:gc w sb ab L)(hw:∀j:Nat,L[j]?≠some (2,false))(V:r=false->∀j:Nat,L[j]?≠some (2,true))(i c:Int):E 69 #[↑sb,agg #[J 1,.bool r],agg #[J 2,J i,.bool r,J c]] w λe w'=>e= returned (tuple #[agg #[J 2,.bool r],J 0])/\Below w.heap.size w w':=by
  obtain⟨w0,C'⟩:=LE (((w.alloc (cells #[J 1,.bool r] 129)).alloc (cells #[J 2,J i,.bool r,J c] 55)).alloc (cells #[J 0,bool false] 129));refine ajo ?_;intro I;have k1:Blk w0 w.heap.size 129 #[J 1,.bool r]:=by rw[C'];exact((Blk.new w _ _).alloc _).alloc _
  have k2:Blk w0 (w.heap.size+1) 55 #[J 2,J i,.bool r,J c]:=by rw[C'];exact(Blk.new' _ _ _ ahF).alloc _
  refine ai9 ?_;intro k3 HE Kh c0 c1 d0 d2;have HN:=qh (λW (b:Below w0.heap.size w0 W)=>At (h.below (I.trans (b.mono I.size))) r hw V);have Y:=qh (λW (b:Below w0.heap.size w0 W)=>show W.cell? ⟨w.heap.size,1,none⟩=some (.bool r)from(k1.below b k1.lt).cell 1);have K:=qh (show Below w0.heap.size w0 w0.drew from(Below.refl _ _).drew);clear h hw V;clear C' I k1 k2 k3;go_enter func69,ntmps69;go_upto_region 1 with fail;rw[<-Kh.o];go_wp2_with fail
  go_region_held3 (λW=>Z W w.heap.size 1 (.bool r))
    (first|with_reducible exact Y.o _ K.o|with_reducible exact Y.o _ O.o|(rw[World.cell?_setCell_other _ _ _ _ ahF,World.cell?_setCell_other _ _ _ _ ahF];exact Y.o _ O.o))
    (first|(go_at_call 114;go_loud (refine Op (HN.o _ K.o) λw2 b2=>?_);have O:=qh (K.o.trans (b2.o.mono K.o.size));have H:=qh (And.intro (HE.o.1.trans (O.o.mono HE.o.1.size)) (HE.o.2.below O.o HE.o.2.lt));have z0:=H.o.2.free 0;have z1:=H.o.2.free 1;have y0:=H.o.2.cell 0;have y1:=H.o.2.cell 1))
  all_goals go_wp2;exact bodyPost_ret (dQ ahI _ _ (w.heap.size+2) 129 _ (0,0) _ ahI (by exact(H.o.2.set_ 0 _).set_ 1 _) Tryz.underlying129 rfl ahH) rfl ⟨rfl,(H.o.1.setCell ah5 _).setCell ah5 _⟩
def Fu(i c:Int)(r:Bool):E 69 #[↑sb,agg #[J 2,.bool r],agg #[J 3,J i,.bool r,J c]] w λe w'=>e= returned (tuple #[agg #[J 3,.bool r],J 0])/\Below w.heap.size w w':=by
  obtain⟨w0,C'⟩:=LE (((w.alloc (cells #[J 2,.bool r] 129)).alloc (cells #[J 3,J i,.bool r,J c] 55)).alloc (cells #[J 0,bool false] 129));refine ajo ?_;intro I;have k1:Blk w0 w.heap.size 129 #[J 2,.bool r]:=by rw[C'];exact((Blk.new w _ _).alloc _).alloc _
  have k2:Blk w0 (w.heap.size+1) 55 #[J 3,J i,.bool r,J c]:=by rw[C'];exact(Blk.new' _ _ _ ahF).alloc _
  refine ai9 ?_;intro k3 HE Kh c0 c1 d0 d2;clear C' I k1 k2 k3;go_enter func69,ntmps69;go_upto_region 1 with fail;rw[<-Kh.o];have O:=HE.o.2.free 0;have V:=HE.o.2.free 1;have h:=HE.o.2.cell 0;have H:=HE.o.2.cell 1;go_wp2;exact bodyPost_ret (dQ ahI _ _ (w.heap.size+2) 129 _ (0,0) _ ahI aiH Tryz.underlying129 rfl ahH) rfl ⟨rfl,(HE.o.1.setCell ah5 _).setCell ah5 _⟩
def Fv(i c:Int)(r:Bool):E 69 #[↑sb,agg #[J 3,.bool r],agg #[J 4,J i,.bool r,J c]] w λe w'=>e= returned (tuple #[agg #[J 0,bool false],J 0])/\Below w.heap.size w w':=by
  obtain⟨w0,C'⟩:=LE (((w.alloc (cells #[J 3,.bool r] 129)).alloc (cells #[J 4,J i,.bool r,J c] 55)).alloc (cells #[J 0,bool false] 129));refine ajo ?_;intro I;have k1:Blk w0 w.heap.size 129 #[J 3,.bool r]:=by rw[C'];exact((Blk.new w _ _).alloc _).alloc _
  have k2:Blk w0 (w.heap.size+1) 55 #[J 4,J i,.bool r,J c]:=by rw[C'];exact(Blk.new' _ _ _ ahF).alloc _
  refine ai9 ?_;intro k3 HE Kh c0 c1 d0 d2;clear C' I k1 k2 k3;go_enter func69,ntmps69;go_upto_region 1 with fail;rw[<-Kh.o];have O:=HE.o.2.free 0;have V:=HE.o.2.free 1;have h:=HE.o.2.cell 0;have H:=HE.o.2.cell 1;go_wp2;exact bodyPost_ret (dQ ahI _ _ (w.heap.size+2) 129 _ (0,0) _ ahI aiH Tryz.underlying129 rfl ahH) rfl ⟨rfl,(HE.o.1.setCell ah5 _).setCell ah5 _⟩
end
end
section
open Go Go.RowKit
section
def zo(w:World)(sb ab:Nat)(L':List (Int×Bool))(e:Ending)(w':World):Prop:=e= returned (J 0)/\gc w' sb ab L'/\aa [ab] w w'
def evC(e:Ev):Array Value:=#[J e.kind,J e.thread,.bool e.read,J e.count]
def Gv(h:gc w sb ab L)(k t c:Int)(r:Bool)(I:k=0\/k=5):E 26 #[↑sb,agg #[J k,J t,.bool r,J c]] w (zo w sb ab L):=by
  have b:=(Below.refl w.heap.size w).alloc (Nat.le_refl _) (cells #[J k,J t,.bool r,J c] 55);have H:=qh (show zo w sb ab L (returned (J 0)) (w.alloc (cells #[J k,J t,.bool r,J c] 55))from⟨rfl,h.below b,aa.of_below b⟩);clear h b;rcases I with rfl|rfl
  all_goals go_enter func26,ntmps26;go_wp2;go_ret;exact H.o
def wC(h:gc w sb ab L)(k c:Int)(i:Nat)(r:Bool)(hk:k=1\/k=2\/k=3\/k=4)(hx:L[i]? =some x)(hm:∀W,Below w.heap.size w W->E 69 #[↑sb,agg #[J x.1,.bool x.2],agg #[J k,J i,.bool r,J c]] W λe w'=>e= returned (tuple #[agg #[J y.1,.bool y.2],J 0])/\Below W.heap.size W w'):E 26 #[↑sb,agg #[J k,J i,.bool r,J c]] w (zo w sb ab (L.set i y)):=by
  obtain⟨w0,C'⟩:=LE (w.alloc (cells #[J k,J i,.bool r,J c] 55));have I:Below w.heap.size w w0:=by rw[C'];exact(Below.refl w.heap.size w).alloc (Nat.le_refl _) _
  have k1:Blk w0 w.heap.size 55 #[J k,J i,.bool r,J c]:=by rw[C'];exact Blk.new w _ _
  have h0:=h.below I;have hn:=h.n32;have hl:=(List.getElem?_eq_some_iff.1 hx).1;have JD:=h.row.lt;have HX:=qh hx;have Wu:=qh (λm=>zt (h0.below (cl (Below.refl _ _) m)));have HM:=qh (λW (b:Below w0.heap.size w0 W)=>hm W (I.trans (b.mono I.size)));have HS:=qh (λW (b:Below w0.heap.size w0 W)=>h0.below b)
  have O:=qh (λW (b:Below w0.heap.size w0 W)=>show W.cell? w.heap.size=some (J k)/\Z W w.heap.size 1 (J i)/\Z W w.heap.size 2 (.bool r)/\Z W w.heap.size 3 (J c)/\W.cell? sb=some (slice (some ⟨ab,0,none⟩) L.length L.length)/\Z W ab (i*2) (J x.1)/\W.cell? ⟨ab,i*2+1,none⟩=some (.bool x.2)from
    have q:=k1.below b k1.lt
    ⟨q.cell 0,q.cell 1,q.cell 2,q.cell 3,(h0.below b).lk.cell 0,((h0.below b).cell hx).1,((h0.below b).cell hx).2⟩)
  have HB:=qh I;have Kh:=qh C';have t1:decide ((i:Int)<0)=false:=decide_eq_false ahE;have t2:decide ((i:Int) >= (L.length:Int))=false:=decide_eq_false ahE;have u1:decide (k<0)=false:=decide_eq_false ahE;have u2:decide (k>5)=false:=decide_eq_false ahE;have u3:(k==0)=false:=by rw[beq_eq_false_iff_ne];omega
  have u4:(k==5)=false:=by rw[beq_eq_false_iff_ne];omega
  obtain⟨x1,x2⟩:=x;obtain⟨Y,y2⟩:=y;simp only at O HM;clear h h0 hx hm I k1 C' hk;go_enter func26,ntmps26;go_upto_region 1 with fail;rw[<-Kh.o];obtain⟨c0,c1,c2,c3,c4,c5,c6⟩:=O.o _ (Below.refl _ _);go_wp2_with fail;go_quiet ((go_at_call 68;exact bG (Wu.o _)));have K:=qh (show Below w0.heap.size w0 (w0.drewN nq)from cl (Below.refl _ _) nq);obtain⟨w1,Ni⟩:=LE (w0.drewN nq);rw[<-Ni]at K ⊢;clear Ni c0 c1 c2 c3 c4 c5 c6;obtain⟨c0,c1,c2,c3,c4,c5,c6⟩:=O.o _ K.o;have K1:=qh (K.o.drew);have Ju:=K.o.size;have QS:=qh ((K.o.alloc K.o.size (cells #[J 0,bool false] 129)).drew);have hA:=(Blk.new w1 129 #[J 0,bool false]).drew;have HA:=qh hA;clear hA;go_wp2_with fail
  go_region_held3 (λW=>W.cell? w.heap.size=some (J k)/\Z W w.heap.size 1 (J i)/\Z W w.heap.size 2 (.bool r)/\Z W w.heap.size 3 (J c)/\W.cell? sb=some (slice (some ⟨ab,0,none⟩) L.length L.length)/\Z W ab (i*2) (J x1)/\Z W ab (i*2+1) (.bool x2))
    (first|with_reducible exact O.o _ K1.o|with_reducible exact O.o _ QS.o|with_reducible exact O.o _ H.o|with_reducible exact O.o _ (H.o.alloc H.o.size _)|exact O.o _ ((H.o.setCell Ju _).setCell Ju _)|exact O.o _ (((H.o.alloc H.o.size _).setCell H.o.size _).setCell H.o.size _))
    (first|(go_at_call 69;first|((with_reducible refine(HM.o _ K1.o).mono ?_);rintro en w2 ⟨rfl,b2⟩;have H:=qh (K1.o.trans (b2.mono K1.o.size));clear b2)|((with_reducible refine(HM.o _ QS.o).mono ?_);rintro en w2 ⟨rfl,b2⟩;have H:=qh (QS.o.trans (b2.mono QS.o.size));have HE:=qh (HA.o.below b2 HA.o.lt);have f0:=HE.o.free 0;have f1:=HE.o.free 1;have f2:=HE.o.cell 0;have f3:=HE.o.cell 1;clear b2)))
  all_goals
    first| (have V:=qh (And.intro (H.o.alloc H.o.size (cells #[J Y,.bool y2] 129)) (Blk.new w2 129 #[J Y,.bool y2]));obtain⟨gs,hV⟩:∃gs,gs=w2.alloc (cells #[J Y,.bool y2] 129):=⟨_,rfl⟩;rw[<-hV];rw[<-hV]at V)| (have V:=qh (And.intro ((H.o.setCell Ju (p:=w1.heap.size) (J Y)).setCell Ju (p:=⟨w1.heap.size,1,none⟩) (.bool y2)) ((HE.o.set_ 0 (J Y)).set_ 1 (.bool y2)));obtain⟨gs,hV⟩:∃gs,gs=(w2.setCell ⟨w1.heap.size,0,none⟩ (J Y)).setCell ⟨w1.heap.size,1,none⟩ (.bool y2):=⟨_,rfl⟩;rw[<-hV];rw[<-hV]at V)
    clear c0 c1 c2 c3 c4 c5 c6 hV;obtain⟨c0,c1,c2,c3,c4,c5,c6⟩:=O.o _ V.o.1;have d0:=V.o.2.cell 0;have d1:=V.o.2.cell 1;have q5:=(HS.o _ V.o.1).row.free (i*2);have q6:=(HS.o _ V.o.1).row.free (i*2+1)
    have HF:=qh (show zo w sb ab (L.set i (Y,y2)) (returned (J 0)) ((gs.setCell ⟨ab,i*2,none⟩ (J Y)).setCell ⟨ab,i*2+1,none⟩ (.bool y2)).drew from
      ⟨rfl,((HS.o _ V.o.1).put HX.o (Y,y2)).below (Below.refl _ _).drew,(((aa.of_below (HB.o.trans (V.o.1.mono HB.o.size))).setCell (.inl ahF) _).setCell (.inl ahF) _).drew⟩)
    go_wp2;go_region;go_wp2;go_ret;exact HF.o
end
end
section
open Go Go.RowKit
def I2{I Y:Nat}{O:List (Int×Bool)}{e:Ev}(h:gc w I Y L)(hs:kw L e O):E 26 #[↑I,evV e] w (zo w I Y O):=by
  cases hs with
  | none k t r c hk=>exact Gv h k t c r hk
  | ask i r q c H=>exact wC h 1 c i r (.inl rfl) H (y:=(1,r)) λW b=>Fs i c r q
  | enter i r c H hw V=>exact wC h 2 c i r (.inr (.inl rfl)) H (y:=(2,r)) λW b=>Ft r (h.below b) hw V i c
  | exit i r c H=>exact wC h 3 c i r (.inr (.inr (.inl rfl))) H (y:=(3,r)) λW b=>Fu i c r
  | rest i r c H=>exact wC h 4 c i r (.inr (.inr (.inr rfl))) H (y:=(0,false)) λW b=>Fv i c r
structure LkM.Seen{n:Nat}(M:LkM n):Prop where
 sO:∀st N i j,M.ok st N->N<lkB->i<n->j<n->j≠i->M.sp (M.step st i) j=M.sp st j
 s1:∀st N i,M.ok st N->N<lkB->i<n->0<(M.sp st i).pc->(M.sp st i).pc<10->(0<(M.sp (M.step st i) i).pc/\(M.sp (M.step st i) i).pc<=10)/\rdB M.rd (M.sp (M.step st i) i)=rdB M.rd (M.sp st i)
 s3:∀st N i,M.ok st N->N<lkB->i<n->10<(M.sp st i).pc->(M.sp (M.step st i) i).pc=0\/10<(M.sp (M.step st i) i).pc/\rdB M.rd (M.sp (M.step st i) i)=rdB M.rd (M.sp st i)
 aO:∀st N i r j,M.ok st N->N<lkB->i<n->j<n->j≠i->M.sp (M.ask st i r) j=M.sp st j
 a1:∀st N i r,M.ok st N->N<lkB->i<n->(M.sp st i).pc=0->(r=true->M.rd=true)->(0<(M.sp (M.ask st i r) i).pc/\(M.sp (M.ask st i r) i).pc<10)/\rdB M.rd (M.sp (M.ask st i r) i)=r
 aN:∀st N i r,M.ok st N->N<lkB->i<n->(M.sp st i).pc≠0->M.sp (M.ask st i r) i=M.sp st i
 lO:∀st N i j,M.ok st N->N<lkB->i<n->j<n->j≠i->M.sp (M.leave st i) j=M.sp st j
 l1:∀st N i,M.ok st N->N<lkB->i<n->(M.sp st i).pc=10->10<(M.sp (M.leave st i) i).pc/\rdB M.rd (M.sp (M.leave st i) i)=rdB M.rd (M.sp st i)
 lN:∀st N i,M.ok st N->N<lkB->i<n->(M.sp st i).pc≠10->M.sp (M.leave st i) i=M.sp st i
section
variable{M:LkM n}{st st':M.σ}
def LkM.view(M:LkM n)(st:M.σ):List (Int×Bool):=(List.range n).map λi=>(M.stt st i,M.rds st i)
def jY(hi:i<n):(M.view st)[i]? =some (M.stt st i,M.rds st i):=by unfold LkM.view;rw[List.getElem?_map,List.getElem?_range hi];rfl
def qo{j:Nat}(h:(M.view st)[j]? =some x):j<n/\x=(M.stt st j,M.rds st j):=by
 have I:=(List.getElem?_eq_some_iff.1 h).1;have H:j<n:=by simpa[LkM.view]using I
 rw[jY H]at h;exact⟨H,(Option.some.inj h).symm⟩
def i9(hi:i<n)(I:(M.stt st' i,M.rds st' i)=y)(h:∀j,j<n->j≠i->M.sp st' j=M.sp st j):M.view st'=(M.view st).set i y:=by
 apply List.ext_getElem?;intro j;rw[List.getElem?_set];by_cases H:j<n
 .rw[jY H,jY H];by_cases e:i=j;.subst e;rw[if_pos rfl,if_pos (by simpa[LkM.view]using hi),I]
  .rw[if_neg e];unfold LkM.stt LkM.rds;rw[h j H (λq=>e q.symm)]
 .have h1:(M.view st')[j]? =none:=List.getElem?_eq_none (by simpa[LkM.view]using H);have O:(M.view st)[j]? =none:=List.getElem?_eq_none (by simpa[LkM.view]using H);rw[h1,O];split
  .split;.rename_i e q;subst e;exact absurd hi H
   .rfl
  .rfl
def qm(I:M.sp st' i=M.sp st i)(h:∀j,j<n->j≠i->M.sp st' j=M.sp st j):M.view st'=M.view st:=by
 unfold LkM.view;apply List.map_congr_left;intro j H;have H:=List.mem_range.1 H;unfold LkM.stt LkM.rds;by_cases e:j=i;.rw[e,I]
 .rw[h j H e]
def iq{pc:Int}(h:0<=pc):(jl pc=0↔pc=0)/\(jl pc=1↔0<pc/\pc<10)/\(jl pc=2↔pc=10)/\(jl pc=3↔10<pc):=by
 unfold jl;split;.omega
 .split;.omega
  .split<;>omega
def jL{st:M.σ}(h:(M.sp st i).pc≠0):M.rds st i=rdB M.rd (M.sp st i):=by unfold LkM.rds vm;simp[h]
def tB{st:M.σ}(h:(M.sp st i).pc=0):M.rds st i=false:=by unfold LkM.rds vm;simp[h]
def DR(G:M.Good)(gs:M.Seen)(h:M.ok st N)(hN:N<lkB)(ZX:N+1<lkB)(p:Int×Int):kw (M.view st) (M.pick st p).1 (M.view (M.pick st p).2)/\((M.pick st p).1.kind≠0->(M.pick st p).1.thread=p.1):=by
 obtain⟨t,k⟩:=p;unfold LkM.pick;simp only;by_cases hi:0<=t/\t<n
 .obtain⟨i,rfl⟩:=Int.eq_ofNat_of_zero_le hi.1;have hin:i<n:=by omega
  rw[if_pos hi,Int.toNat_natCast];have hp:=G.pcs st N i h hin;obtain⟨z0,z1,z2,z3⟩:=iq hp;have hg:=jY (M:=M) (st:=st) hin;split
  .unfold LkM.stepE;split
   .rename_i hs;have Lv:=z1.1 hs;have q:=gs.s1 st N i h hN hin Lv.1 Lv.2;have V:=jL (M:=M) (st:=st) (i:=i) ahE;have JZ:=jL (M:=M) (st:=M.step st i) (i:=i) ahE;have e:M.rds (M.step st i) i=M.rds st i:=(by rw[V,JZ,q.2]);have JT:=iq (pc:=(M.sp (M.step st i) i).pc) ahE;rw[hs]at hg;cases hc:dg (M.sp st i) (M.sp (M.step st i) i)
    .have LC:=of_decide_eq_false hc;have s1:M.stt (M.step st i) i=1:=JT.2.1.2 ahE;rw[if_neg ahG];refine⟨?_,λq=>absurd rfl q⟩;have:=i9 (M:=M) (st:=st) (st':=M.step st i) hin (y:=(1,M.rds st i)) (by rw[s1,e]) (λj Y H=>gs.sO st N i j h hN hin Y H);simp only
     rw[this,show(M.view st).set i (1,M.rds st i)=M.view st from by
      apply List.ext_getElem?;intro j;rw[List.getElem?_set];split;.exact acD
      .rfl]
     exact .none 0 i _ 0 (.inl rfl)
    .have LC:=of_decide_eq_true hc;have s2:M.stt (M.step st i) i=2:=JT.2.2.1.2 ahE;rw[if_pos rfl];refine⟨?_,λ_=>rfl⟩;simp only;rw[i9 (M:=M) (st:=st) (st':=M.step st i) hin (y:=(2,M.rds st i)) (by rw[s2,e]) (λj Y H=>gs.sO st N i j h hN hin Y H)];have mP:=G.okS st N i h hN hin;have Wf:=JT.2.2.1.1 s2
     have one:∀j,j<n->j≠i->(M.sp st j).pc=10->rdB M.rd (M.sp st j)=true/\rdB M.rd (M.sp st i)=true:=λj Y H Vn=>by
      have hO:=gs.sO st N i j h hN hin Y H;constructor
      .cases I:rdB M.rd (M.sp st j);.exact absurd (G.one _ _ j i mP Y hin (by rw[hO];exact Vn) Wf (by rw[hO];exact I)) H
       .rfl
      .cases I:rdB M.rd (M.sp st i);.exact absurd (G.one _ _ i j mP hin Y Wf (by rw[hO];exact Vn) (by rw[q.2];exact I)).symm H
       .rfl
     refine .enter i _ _ hg (λj Y=>?_) (λRB j Y=>?_)
     .obtain⟨Lo,he⟩:=qo Y;injection he with e1 e2;have TG:=(iq (G.pcs st N j h Lo)).2.2.1.1 e1.symm;by_cases H:j=i;.subst H;omega
      .have:=(one j Lo H TG).1;rw[<-jL (M:=M) ahE,<-e2]at this;cases this
     .obtain⟨Lo,he⟩:=qo Y;injection he with e1 e2;have TG:=(iq (G.pcs st N j h Lo)).2.2.1.1 e1.symm;by_cases H:j=i;.subst H;omega
      .have:=(one j Lo H TG).2;rw[<-V,RB]at this;cases this
   .split
    .rename_i hs;have Lv:=z3.1 hs;have q:=gs.s3 st N i h hN hin Lv;have V:=jL (M:=M) (st:=st) (i:=i) ahE;rw[hs]at hg;cases hc:dg (M.sp st i) (M.sp (M.step st i) i)
     .have LC:=of_decide_eq_false hc;rcases q with q|q
      .omega
      have JZ:=jL (M:=M) (st:=M.step st i) (i:=i) ahE;have e:M.rds (M.step st i) i=M.rds st i:=(by rw[V,JZ,q.2]);have s3:M.stt (M.step st i) i=3:=(iq (pc:=(M.sp (M.step st i) i).pc) ahE).2.2.2.2 q.1;refine⟨?_,λq=>absurd rfl q⟩
      have O:M.view (M.step st i)=M.view st:=by
       rw[i9 (M:=M) (st:=st) (st':=M.step st i) hin (y:=(3,M.rds st i)) (by rw[s3,e]) (λj Y H=>gs.sO st N i j h hN hin Y H)];apply List.ext_getElem?;intro j;rw[List.getElem?_set];split;.exact acD
       .rfl
      simp only;rw[O];exact .none 0 i _ 0 (.inl rfl)
     .have LC:=of_decide_eq_true hc;rcases q with q|q
      .have s0:M.stt (M.step st i) i=0:=(iq (pc:=(M.sp (M.step st i) i).pc) ahE).1.2 q;refine⟨?_,λ_=>rfl⟩;simp only;rw[i9 (M:=M) (st:=st) (st':=M.step st i) hin (y:=(0,false)) (by rw[s0,tB q]) (λj Y H=>gs.sO st N i j h hN hin Y H)];exact .rest i _ 0 hg
      .omega
    .exact⟨.none 0 i _ 0 (.inl rfl),λq=>absurd rfl q⟩
  .split
   .unfold LkM.askE;split;.exact acE
    .rename_i LW;generalize decide (k=3)=r at LW ⊢;by_cases hc:(M.sp st i).pc=0/\(r=true->M.rd=true);.rw[decide_eq_true hc,if_pos rfl];have q:=gs.a1 st N i r h hN hin hc.1 hc.2;have JZ:=jL (M:=M) (st:=M.ask st i r) (i:=i) ahE;refine⟨?_,λ_=>rfl⟩;simp only;rw[i9 (M:=M) (st:=st) (st':=M.ask st i r) hin (y:=(1,r)) (by rw[JZ,q.2,show M.stt (M.ask st i r) i=1 from(iq (pc:=(M.sp (M.ask st i r) i).pc) ahE).2.1.2 q.1]) (λj Y H=>gs.aO st N i r j h hN hin Y H)];refine .ask i r (M.rds st i) 0 ?_;rw[hg,show M.stt st i=0 from z0.2 hc.1]
     .rw[decide_eq_false hc,if_neg ahG];have H':(M.sp st i).pc≠0:=λe=>hc ⟨e,λer=>by subst er;simpa using LW⟩;refine⟨?_,λ_=>rfl⟩;simp only;rw[qm (M:=M) (st:=st) (st':=M.ask st i r) (gs.aN st N i r h hN hin H') (λj Y H=>gs.aO st N i r j h hN hin Y H)];exact .none 5 i _ 0 (.inr rfl)
   .split
    .unfold LkM.leaveE;split;.exact acE
     .rename_i LW;generalize decide (k=4)=r at LW ⊢;have er:M.rds st i=r:=(by simpa using LW);by_cases hc:(M.sp st i).pc=10;.rw[decide_eq_true hc,if_pos rfl];have q:=gs.l1 st N i h hN hin hc;have JZ:=jL (M:=M) (st:=M.leave st i) (i:=i) ahE;have V:=jL (M:=M) (st:=st) (i:=i) ahE;refine⟨?_,λ_=>rfl⟩;simp only;rw[i9 (M:=M) (st:=st) (st':=M.leave st i) hin (y:=(3,r)) (by rw[JZ,q.2,<-V,er,show M.stt (M.leave st i) i=3 from(iq (pc:=(M.sp (M.leave st i) i).pc) ahE).2.2.2.2 q.1]) (λj Y H=>gs.lO st N i j h hN hin Y H)];refine .exit i r 0 ?_;rw[hg,show M.stt st i=2 from z2.2 hc,er]
      .rw[decide_eq_false hc,if_neg ahG];refine⟨?_,λ_=>rfl⟩;simp only;rw[qm (M:=M) (st:=st) (st':=M.leave st i) (gs.lN st N i h hN hin hc) (λj Y H=>gs.lO st N i j h hN hin Y H)];exact .none 5 i _ 0 (.inr rfl)
    .exact acE
 .rw[if_neg hi];exact⟨.none 0 0 _ 0 (.inl rfl),λq=>absurd rfl q⟩
end
end
section
open Go Go.RowKit Go.Maps
section
variable{M:LkM n}{X:WoB M}{st st':M.σ}{row:Option Nat}
def LkM.runA(M:LkM n)(st:M.σ)(l:List (Int×Int))(k:Nat):M.σ:=(l.take k).foldl (λs p=>(M.pick s p).2) st
def qc{l:List (Int×Int)}{k:Nat}{p:Int×Int}(h:l[k]? =some p):M.runA st l (k+1)=(M.pick (M.runA st l k) p).2:=by unfold LkM.runA;rw[cj h,List.foldl_append];rfl
def LkM.Good.runA(G:M.Good)(h:M.ok st N)(l:List (Int×Int)):∀k,N+k<=lkB->M.ok (M.runA st l k) (N+k):=by
 intro k;induction k with
 |zero=>intro _;exact h
 |succ k I=>
  intro O;have h1:=I ahE;cases H:l[k]? with
  |none=>have e:M.runA st l (k+1)=M.runA st l k:=(by unfold LkM.runA;rw[List.take_add_one,H];simp);rw[e];exact G.okm _ _ h1
  |some p=>rw[qc H];exact(G.pick h1 ahE p).1
end
end
end Go.Proofs.YtglokdbiggbkjaaGreat
