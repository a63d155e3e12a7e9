/- Joined texts. -/
import Derived.Deep.RegionHeld3
import Derived.Deep.DeepCutAuto
import Derived.BigRegion
import Derived.Test.YtglokdbiggbkjaaGreatMgBoltLoops0
import Derived.Test.YtglokdbiggbkjaaGreatMgBoltLoops2
import Derived.Test.YtglokdbiggbkjaaGreatMgBoltLoops3
set_option linter.unusedVariables false
set_option linter.unusedSimpArgs false
set_option linter.defProp false
set_option maxRecDepth 100000
set_option maxHeartbeats 16000000
open Go.Proofs.Tryz
namespace Go.Proofs.YtglokdbiggbkjaaGreat
open Go.IntKind(i64)
open Go.Value(int bool slice agg tuple pointer)
open Go.Ending(returned)
open Go.Obj(cells)
variable{w w':World}{sb ab i:Nat}{L L':List (Int×Bool)}{x y:Int×Bool}
section
open Go Go.RowKit
theorem Tryz.infoAtS:(prog.info? 129).map (λi=>(i.zero,i.size,i.bytes))=some (some (agg #[J 0,bool false]),2,16):=by kernel_rfl
def pW(x:Int×Bool):List Value:=[J x.1,.bool x.2]
def ln(x:Int×Bool):(pW x).length=2:=rfl
structure gF(w:World)(sb ab:Nat)(L:List (Int×Bool)):Prop where
 lk:Blk w sb 124 #[slice (some ⟨ab,0,none⟩) L.length L.length]
 row:Blk w ab 129 (L.flatMap pW).toArray
 ne:sb≠ab
 n32:L.length<=32
section
variable{S:List Nat}
def gF.far(h:gF w sb ab L)(t:aa S w w')(h1:sb∉S)(H:ab∉S):gF w' sb ab L:=⟨t.blk h.lk h1,t.blk h.row H,h.ne,h.n32⟩
def gF.below(h:gF w sb ab L)(b:Below w.heap.size w w'):gF w' sb ab L:=h.far (aa.of_below (S:=[]) b) ahC ahC
def gF.cell(h:gF w sb ab L)(H:L[i]? =some x):Z w ab (i*2) (J x.1)/\Z w ab (i*2+1) (.bool x.2):=by
 rw[h.row.cell,h.row.cell];constructor;.simpa using cE pW 2 ln L i x 0 _ H rfl
 .simpa using cE pW 2 ln L i x 1 _ H rfl
def gF.put(h:gF w sb ab L)(I:L[i]? =some x)(y:Int×Bool):gF ((w.setCell ⟨ab,i*2,none⟩ (J y.1)).setCell ⟨ab,i*2+1,none⟩ (.bool y.2)) sb ab (L.set i y):=by
 refine⟨?_,?_,h.ne,by simpa using h.n32⟩;.rw[List.length_set];exact(h.lk.far h.ne _).far h.ne _
 .have h1:=(h.row.set_ (i*2) (J y.1)).set_ (i*2+1) (.bool y.2);rw[List.setIfInBounds_toArray,List.setIfInBounds_toArray]at h1;have H:=nA pW 2 ln L i x (y.1,x.2) 0 (J y.1) I ahD rfl;rw[Nat.add_zero]at H;rw[H]at h1;have O:=(List.getElem?_eq_some_iff.1 I).1;rw[nA pW 2 ln (L.set i (y.1,x.2)) i (y.1,x.2) y 1 (.bool y.2) (by rw[List.getElem?_set_self O]) ahD rfl,List.set_set]at h1;exact h1
def Hd(n:Nat):(madeCells #[Value.int .i64 0,bool false] (n*2)).toList=(List.replicate n ((0:Int),false)).flatMap pW:=by
 have e:∀m,(List.replicate m ((0:Int),false)).flatMap pW=(List.range (m*2)).map (λi=>if i%2=0 then Value.int .i64 0 else bool false):=by
  intro m;induction m with
  |zero=>rfl
  |succ m h=>rw[List.replicate_succ',List.flatMap_append,h,show(m+1)*2=m*2+1+1 by omega,List.range_succ,List.range_succ,List.map_append,List.map_append,List.append_assoc];congr 1;simp[pW]
 rw[e];unfold madeCells;rw[Array.toList_map,Array.toList_range];refine List.map_congr_left λi _=>?_;have:i%2=0\/i%2=1:=by omega
 rcases this with e|e<;>simp[e]
def IN(w:World)(n:Nat)(h1:1<=n)(h2:n<=32):E 22 #[J n] w λe w'=>∃sb ab,e= returned (pointer (some ⟨sb,0,none⟩))/\gF w' sb ab (List.replicate n (0,false))/\w.heap.size<=sb/\w.heap.size<=ab/\Below w.heap.size w w':=by
  obtain⟨i0,hi,V,Y,h⟩:=info_parts Tryz.infoAtS;go_enter func22,ntmps22;go_wp2_with (refine wpList_make_full _ rfl _ _ 122 rfl w.heap.size 129 i0 (agg #[J 0,bool false]) 2 Tryz.underlying122 hi V Y .i64 .i64 n n n rfl rfl rfl rfl ?b2 ?b3 (Nat.le_refl _) ?_);case b2=>rw[h];omega
  case b3=>unfold maxLen;omega
  intro w2 I hg;have b2:=(Below.refl w.heap.size w).grown hg (Nat.le_refl _) (λj hj=>by cases hj);have hb:Blk w2 w.heap.size 129 ((List.replicate n ((0:Int),false)).flatMap pW).toArray:=by have H:=gc I;have e:(madeCells #[Value.int .i64 0,bool false] (n*2)).toList=_:=Hd n;rw[e]at H;exact H
  have O:=qh (show ∃sb ab,(Ending.returned ↑w2.heap.size)= returned (pointer (some ⟨sb,0,none⟩))/\gF (w2.alloc (cells #[slice (some ⟨w.heap.size,0,none⟩) n n] 124)) sb ab (List.replicate n (0,false))/\w.heap.size<=sb/\w.heap.size<=ab/\Below w.heap.size w (w2.alloc (cells #[slice (some ⟨w.heap.size,0,none⟩) n n] 124))from by
    have hl:=hb.lt;refine⟨w2.heap.size,w.heap.size,rfl,⟨?_,hb.alloc _,by omega,by simpa using h2⟩,by omega,Nat.le_refl _,b2.alloc ahB _⟩;rw[List.length_replicate]
    exact Blk.new w2 _ _)
  clear I hg b2 hb;go_wp2;go_ret;exact O.o
end
end
section
open Go Go.RowKit
section
def Aq(h:gF w sb ab L):E 68 #[↑sb] w λe w'=>e= returned (slice (some ⟨ab,0,none⟩) L.length L.length)/\w=w':=by have c0:=h.lk.cell 0;clear h;go_enter func68,ntmps68;exact aaa
def D9(h:gF w sb ab L)(hw:∀i:Nat,L[i]?≠some (2,false)):E 179 #[slice (some ⟨ab,0,none⟩) L.length L.length,agg #[J 2,bool false]] w λe w'=>e= returned (J (-1))/\Below w.heap.size w w':=by
  have Y:=qh h;have HW:=qh hw;have hn:=h.n32;have b1:=(Below.refl w.heap.size w).alloc (Nat.le_refl _) (cells #[J 2,bool false] 129);have HX:=qh (And.intro b1 (Blk.new w 129 #[J 2,bool false]));obtain⟨w0,I⟩:=LE (w.alloc (cells #[J 2,bool false] 129));rw[<-I]at HX;have Lh:=qh I;clear h hw b1 I;go_enter func179,ntmps179;go_wp2;rw[<-Lh.o];go_loopw [5,8] (λ_ i wr=>∃k:Nat,k<=L.length/\i= J k/\Qt w0 wr) (λ_ i _=>L.length-(intOf i).toNat);case atStart=>exact⟨0,by omega,rfl,Qt.refl _⟩
  case round=>
    obtain⟨k,hk,rfl,⟨m,rfl⟩⟩:=hrel;by_cases I':k<L.length
    . obtain⟨⟨s,r⟩,V⟩:=ai I';have hc:=((Y.o.below HX.o.1).cell V);have H:=HW.o k;rw[V]at H;obtain⟨c0,c1⟩:=hc;have d0:=HX.o.2.cell 0;have d1:=HX.o.2.cell 1;clear V;by_cases O:s=2
      . obtain rfl:r=true:=by cases r;exact absurd (by rw[O]) H;rfl
        subst O;clear H;go_wp2;go_quiet (fail);go_wp2;go_roundw;case rel=>exact⟨k+1,by omega,by go_num,⟨m+nq,by first|rfl|rw[World.drewN_drewN]⟩⟩
        case measure=>simp[intOf];omega
      . have u:((2:Int)==s)=false:=(by rw[beq_eq_false_iff_ne];omega);clear H O;go_wp2;go_quiet (fail);go_wp2;go_roundw;case rel=>exact⟨k+1,by omega,by go_num,⟨m+nq,by first|rfl|rw[World.drewN_drewN]⟩⟩
        case measure=>simp[intOf];omega
    . obtain rfl:k=L.length:=by omega
      go_wp2;go_ret;exact⟨rfl,ce HX.o.1 _⟩
def Dk(h:gF w sb ab L)(hw:∀i:Nat,L[i]?≠some (2,false)):E 158 #[↑sb] w λe w'=>e= returned (J (-1))/\Below w.heap.size w w':=by have I:=qh (Aq h);have O:=qh (D9 h hw);clear h hw;go_enter func158,ntmps158;go_wp2_with fail;refine LT I.o ?_;go_wp2_with fail;refine Op O.o λw2 H=>?_;go_wp2;go_ret;exact⟨rfl,H.o⟩
def zv(h:gF w sb ab L)(hw:∀i:Nat,L[i]?≠some (2,true)):E 159 #[↑sb] w λe w'=>e= returned (J 0)/\Below w.heap.size w w':=by
  have HA:=qh (Aq h);have HH:=qh h;have HW:=qh hw;have hn:=h.n32;clear h hw;go_enter func159,ntmps159;go_wp2_with fail;refine LT HA.o ?_;go_wp2;go_loopw [3,5,9] (λo _ i wr=>∃k:Nat,k<=L.length/\i= J k/\o= J 0/\Below w.heap.size w wr) (λ_ _ i _=>L.length-(intOf i).toNat);case atStart=>exact⟨0,by omega,rfl,rfl,Below.refl _ _⟩
  case round=>
    obtain⟨k,hk,rfl,rfl,hb⟩:=hrel;obtain⟨wo,rfl⟩:∃wo:World,wo=wr:=⟨_,rfl⟩;have I:=qh hb;clear hb;by_cases I':k<L.length
    . obtain⟨⟨s,r⟩,V⟩:=ai I';have hc:=((HH.o.below I.o).cell V);have H:=HW.o k;rw[V]at H;obtain⟨c0,c1⟩:=hc;have Y:=qh (I.o.alloc I.o.size (cells #[J s,.bool r] 129));clear V;by_cases O:s=2
      . obtain rfl:r=false:=by cases r;rfl;exact absurd (by rw[O]) H
        subst O;clear H;go_wp2;go_roundw;case rel=>exact⟨k+1,by omega,by go_num,rfl,Y.o⟩
        case measure=>simp[intOf];omega
      . have u:(s==(2:Int))=false:=(by rw[beq_eq_false_iff_ne];omega);clear H O;go_wp2;go_roundw;case rel=>exact⟨k+1,by omega,by go_num,rfl,Y.o⟩
        case measure=>simp[intOf];omega
    . obtain rfl:k=L.length:=by omega
      go_wp2;go_ret;exact⟨rfl,I.o⟩
def Bs(h:gF w sb ab L)(r:Bool)(hw:∀i:Nat,L[i]?≠some (2,false))(I:r=false->∀i:Nat,L[i]?≠some (2,true)):E 114 #[↑sb,.bool r] w λe w'=>e= returned (J 0)/\Below w.heap.size w w':=by
  have O:=qh (Dk h hw);have H:=qh (λW (b:Below w.heap.size w W) (q:r=false)=>zv (h.below b) (I q));clear h hw I;cases r;. replace H:=qh (λW b=>H.o W b rfl);go_enter func114,ntmps114;go_wp2_with fail;refine Op O.o λw1 B1=>?_;go_wp2_with fail;refine Op (H.o _ B1.o) λw2 b2=>?_;have V:=qh (B1.o.trans (b2.o.mono B1.o.size));go_wp2;go_ret;exact⟨rfl,V.o⟩
  . clear H;go_enter func114,ntmps114;go_wp2_with fail;refine Op O.o λw1 B1=>?_;go_wp2;go_ret;exact⟨rfl,B1.o⟩
end
end
section
open Go Go.RowKit
def dV{P:Program}{I:Func}{p u:Tmp}{ty:TypeId}(h:I.results=#[.cell p ty,.tmp u])(H:Array Value)(w:World)(g:Nat)(t:TypeId)(cs:Array Value)(fr:Nat×Nat)(d:TypeDesc)(V:H.getD p undef= ↑g)(hg:w.heap[g]? =some (.cells cs t fr))(Y:P.underlying ty=some d)(hd:(match d with|.struct _|.array _ _=>true|_=>false)=true)(hi:(P.info? ty).map (·.size)=some cs.size):(results I H).run P w= .ok (tuple #[.agg cs,H.getD u undef]) w:=by
  have O:H[p]?.getD undef= ↑g:=by simpa using V
  simp[results,h,O,asAddr,run_loadVar_row w g t ty cs fr d hg Y hd hi]
inductive jk(L:List (Int×Bool)):Ev->List (Int×Bool)->Prop
 |none (k t:Int) (r:Bool) (c:Int) (h:k=0\/k=5):jk L ⟨k,t,r,c⟩ L
 |ask (i:Nat) (r q:Bool) (c:Int) (h:L[i]? =some (0,q)):jk L ⟨1,i,r,c⟩ (L.set i (1,r))
 |enter (i:Nat) (r:Bool) (c:Int) (h:L[i]? =some (1,r)) (hw:∀j:Nat,L[j]?≠some (2,false)) (I:r=false->∀j:Nat,L[j]?≠some (2,true)):jk L ⟨2,i,r,c⟩ (L.set i (2,r))
 |exit (i:Nat) (r:Bool) (c:Int) (h:L[i]? =some (2,r)):jk L ⟨3,i,r,c⟩ (L.set i (3,r))
 |rest (i:Nat) (r:Bool) (c:Int) (h:L[i]? =some (3,r)):jk L ⟨4,i,r,c⟩ (L.set i (0,false))
section
def Gi(i c:Int)(r q:Bool):E 69 #[↑sb,agg #[J 0,.bool q],agg #[J 1,J i,.bool r,J c]] w λe w'=>e= returned (tuple #[agg #[J 1,.bool r],J 0])/\Below w.heap.size w w':=by
  obtain⟨w0,E'⟩:=LE (((w.alloc (cells #[J 0,.bool q] 129)).alloc (cells #[J 1,J i,.bool r,J c] 55)).alloc (cells #[J 0,bool false] 129));refine ajn ?_;intro hb;have k1:Blk w0 w.heap.size 129 #[J 0,.bool q]:=by rw[E'];exact((Blk.new w _ _).alloc _).alloc _
  have k2:Blk w0 (w.heap.size+1) 55 #[J 1,J i,.bool r,J c]:=by rw[E'];exact(Blk.new' _ _ _ ahC).alloc _
  refine ai8 ?_;intro k3 HE Lh c0 c1 d0 d2;clear E' hb k1 k2 k3;go_enter func69,ntmps69;go_upto_region 1 with fail;rw[<-Lh.o];have I:=HE.o.2.free 0;have O:=HE.o.2.free 1;have h:=HE.o.2.cell 0;have H:=HE.o.2.cell 1;go_wp2;exact bodyPost_ret (dV ahF _ _ (w.heap.size+2) 129 _ (0,0) _ ahF air Tryz.underlying129 rfl ahE) rfl ⟨rfl,(HE.o.1.setCell ahZ _).setCell ahZ _⟩
def Gj(r:Bool)(h:gF w sb ab L)(hw:∀j:Nat,L[j]?≠some (2,false))(I:r=false->∀j:Nat,L[j]?≠some (2,true))(i c:Int):E 69 #[↑sb,agg #[J 1,.bool r],agg #[J 2,J i,.bool r,J c]] w λe w'=>e= returned (tuple #[agg #[J 2,.bool r],J 0])/\Below w.heap.size w w':=by
  obtain⟨w0,E'⟩:=LE (((w.alloc (cells #[J 1,.bool r] 129)).alloc (cells #[J 2,J i,.bool r,J c] 55)).alloc (cells #[J 0,bool false] 129));refine ajn ?_;intro hb;have k1:Blk w0 w.heap.size 129 #[J 1,.bool r]:=by rw[E'];exact((Blk.new w _ _).alloc _).alloc _
  have k2:Blk w0 (w.heap.size+1) 55 #[J 2,J i,.bool r,J c]:=by rw[E'];exact(Blk.new' _ _ _ ahC).alloc _
  refine ai8 ?_;intro k3 HE Lh c0 c1 d0 d2;have Y:=qh (λW (b:Below w0.heap.size w0 W)=>Bs (h.below (hb.trans (b.mono hb.size))) r hw I);have V:=qh (λW (b:Below w0.heap.size w0 W)=>show W.cell? ⟨w.heap.size,1,none⟩=some (.bool r)from(k1.below b k1.lt).cell 1);have K:=qh (show Below w0.heap.size w0 w0.drew from(Below.refl _ _).drew);clear h hw I;clear E' hb k1 k2 k3;go_enter func69,ntmps69;go_upto_region 1 with fail;rw[<-Lh.o];go_wp2_with fail
  go_region_held3 (λW=>Z W w.heap.size 1 (.bool r))
    (first|with_reducible exact V.o _ K.o|with_reducible exact V.o _ O.o|(rw[World.cell?_setCell_other _ _ _ _ ahC,World.cell?_setCell_other _ _ _ _ ahC];exact V.o _ O.o))
    (first|(go_at_call 114;go_loud (refine Op (Y.o _ K.o) λw2 b2=>?_);have O:=qh (K.o.trans (b2.o.mono K.o.size));have H:=qh (And.intro (HE.o.1.trans (O.o.mono HE.o.1.size)) (HE.o.2.below O.o HE.o.2.lt));have z0:=H.o.2.free 0;have z1:=H.o.2.free 1;have y0:=H.o.2.cell 0;have y1:=H.o.2.cell 1))
  all_goals go_wp2;exact bodyPost_ret (dV ahF _ _ (w.heap.size+2) 129 _ (0,0) _ ahF (by exact(H.o.2.set_ 0 _).set_ 1 _) Tryz.underlying129 rfl ahE) rfl ⟨rfl,(H.o.1.setCell ahZ _).setCell ahZ _⟩
def Gk(i c:Int)(r:Bool):E 69 #[↑sb,agg #[J 2,.bool r],agg #[J 3,J i,.bool r,J c]] w λe w'=>e= returned (tuple #[agg #[J 3,.bool r],J 0])/\Below w.heap.size w w':=by
  obtain⟨w0,E'⟩:=LE (((w.alloc (cells #[J 2,.bool r] 129)).alloc (cells #[J 3,J i,.bool r,J c] 55)).alloc (cells #[J 0,bool false] 129));refine ajn ?_;intro hb;have k1:Blk w0 w.heap.size 129 #[J 2,.bool r]:=by rw[E'];exact((Blk.new w _ _).alloc _).alloc _
  have k2:Blk w0 (w.heap.size+1) 55 #[J 3,J i,.bool r,J c]:=by rw[E'];exact(Blk.new' _ _ _ ahC).alloc _
  refine ai8 ?_;intro k3 HE Lh c0 c1 d0 d2;clear E' hb k1 k2 k3;go_enter func69,ntmps69;go_upto_region 1 with fail;rw[<-Lh.o];have I:=HE.o.2.free 0;have O:=HE.o.2.free 1;have h:=HE.o.2.cell 0;have H:=HE.o.2.cell 1;go_wp2;exact bodyPost_ret (dV ahF _ _ (w.heap.size+2) 129 _ (0,0) _ ahF air Tryz.underlying129 rfl ahE) rfl ⟨rfl,(HE.o.1.setCell ahZ _).setCell ahZ _⟩
def Gl(i c:Int)(r:Bool):E 69 #[↑sb,agg #[J 3,.bool r],agg #[J 4,J i,.bool r,J c]] w λe w'=>e= returned (tuple #[agg #[J 0,bool false],J 0])/\Below w.heap.size w w':=by
  obtain⟨w0,E'⟩:=LE (((w.alloc (cells #[J 3,.bool r] 129)).alloc (cells #[J 4,J i,.bool r,J c] 55)).alloc (cells #[J 0,bool false] 129));refine ajn ?_;intro hb;have k1:Blk w0 w.heap.size 129 #[J 3,.bool r]:=by rw[E'];exact((Blk.new w _ _).alloc _).alloc _
  have k2:Blk w0 (w.heap.size+1) 55 #[J 4,J i,.bool r,J c]:=by rw[E'];exact(Blk.new' _ _ _ ahC).alloc _
  refine ai8 ?_;intro k3 HE Lh c0 c1 d0 d2;clear E' hb k1 k2 k3;go_enter func69,ntmps69;go_upto_region 1 with fail;rw[<-Lh.o];have I:=HE.o.2.free 0;have O:=HE.o.2.free 1;have h:=HE.o.2.cell 0;have H:=HE.o.2.cell 1;go_wp2;exact bodyPost_ret (dV ahF _ _ (w.heap.size+2) 129 _ (0,0) _ ahF air Tryz.underlying129 rfl ahE) rfl ⟨rfl,(HE.o.1.setCell ahZ _).setCell ahZ _⟩
end
end
section
open Go Go.RowKit
section
def Al(w:World)(sb ab:Nat)(L':List (Int×Bool))(e:Ending)(w':World):Prop:=e= returned (J 0)/\gF w' sb ab L'/\aa [ab] w w'
def Hw(h:gF w sb ab L)(k t c:Int)(r:Bool)(I:k=0\/k=5):E 26 #[↑sb,agg #[J k,J t,.bool r,J c]] w (Al w sb ab L):=by
  have b:=(Below.refl w.heap.size w).alloc (Nat.le_refl _) (cells #[J k,J t,.bool r,J c] 55);have H:=qh (show Al w sb ab L (returned (J 0)) (w.alloc (cells #[J k,J t,.bool r,J c] 55))from⟨rfl,h.below b,aa.of_below b⟩);clear h b;rcases I with rfl|rfl
  all_goals go_enter func26,ntmps26;go_wp2;go_ret;exact H.o
def xz(h:gF w sb ab L)(k c:Int)(i:Nat)(r:Bool)(hk:k=1\/k=2\/k=3\/k=4)(hx:L[i]? =some x)(hm:∀W,Below w.heap.size w W->E 69 #[↑sb,agg #[J x.1,.bool x.2],agg #[J k,J i,.bool r,J c]] W λe w'=>e= returned (tuple #[agg #[J y.1,.bool y.2],J 0])/\Below W.heap.size W w'):E 26 #[↑sb,agg #[J k,J i,.bool r,J c]] w (Al w sb ab (L.set i y)):=by
  obtain⟨w0,E'⟩:=LE (w.alloc (cells #[J k,J i,.bool r,J c] 55));have hb:Below w.heap.size w w0:=by rw[E'];exact(Below.refl w.heap.size w).alloc (Nat.le_refl _) _
  have k1:Blk w0 w.heap.size 55 #[J k,J i,.bool r,J c]:=by rw[E'];exact Blk.new w _ _
  have h0:=h.below hb;have hn:=h.n32;have hl:=(List.getElem?_eq_some_iff.1 hx).1;have Ky:=h.row.lt;have HX:=qh hx;have XL:=qh (λm=>Aq (h0.below (ce (Below.refl _ _) m)));have HM:=qh (λW (b:Below w0.heap.size w0 W)=>hm W (hb.trans (b.mono hb.size)));have HS:=qh (λW (b:Below w0.heap.size w0 W)=>h0.below b)
  have I:=qh (λW (b:Below w0.heap.size w0 W)=>show W.cell? w.heap.size=some (J k)/\Z W w.heap.size 1 (J i)/\Z W w.heap.size 2 (.bool r)/\Z W w.heap.size 3 (J c)/\W.cell? sb=some (slice (some ⟨ab,0,none⟩) L.length L.length)/\Z W ab (i*2) (J x.1)/\W.cell? ⟨ab,i*2+1,none⟩=some (.bool x.2)from
    have q:=k1.below b k1.lt
    ⟨q.cell 0,q.cell 1,q.cell 2,q.cell 3,(h0.below b).lk.cell 0,((h0.below b).cell hx).1,((h0.below b).cell hx).2⟩)
  have HB:=qh hb;have Lh:=qh E';have t1:decide ((i:Int)<0)=false:=decide_eq_false ahB;have t2:decide ((i:Int) >= (L.length:Int))=false:=decide_eq_false ahB;have u1:decide (k<0)=false:=decide_eq_false ahB;have u2:decide (k>5)=false:=decide_eq_false ahB;have u3:(k==0)=false:=by rw[beq_eq_false_iff_ne];omega
  have u4:(k==5)=false:=by rw[beq_eq_false_iff_ne];omega
  obtain⟨x1,x2⟩:=x;obtain⟨V,Y⟩:=y;simp only at I HM;clear h h0 hx hm hb k1 E' hk;go_enter func26,ntmps26;go_upto_region 1 with fail;rw[<-Lh.o];obtain⟨c0,c1,c2,c3,c4,c5,c6⟩:=I.o _ (Below.refl _ _);go_wp2_with fail;go_quiet ((go_at_call 68;exact bK (XL.o _)));have K:=qh (show Below w0.heap.size w0 (w0.drewN nq)from ce (Below.refl _ _) nq);obtain⟨w1,MQ⟩:=LE (w0.drewN nq);rw[<-MQ]at K ⊢;clear MQ c0 c1 c2 c3 c4 c5 c6;obtain⟨c0,c1,c2,c3,c4,c5,c6⟩:=I.o _ K.o;have K1:=qh (K.o.drew);have Kl:=K.o.size;have RX:=qh ((K.o.alloc K.o.size (cells #[J 0,bool false] 129)).drew);have hA:=(Blk.new w1 129 #[J 0,bool false]).drew;have HA:=qh hA;clear hA;go_wp2_with fail
  go_region_held3 (λW=>W.cell? w.heap.size=some (J k)/\Z W w.heap.size 1 (J i)/\Z W w.heap.size 2 (.bool r)/\Z W w.heap.size 3 (J c)/\W.cell? sb=some (slice (some ⟨ab,0,none⟩) L.length L.length)/\Z W ab (i*2) (J x1)/\Z W ab (i*2+1) (.bool x2))
    (first|with_reducible exact I.o _ K1.o|with_reducible exact I.o _ RX.o|with_reducible exact I.o _ H.o|with_reducible exact I.o _ (H.o.alloc H.o.size _)|exact I.o _ ((H.o.setCell Kl _).setCell Kl _)|exact I.o _ (((H.o.alloc H.o.size _).setCell H.o.size _).setCell H.o.size _))
    (first|(go_at_call 69;first|((with_reducible refine(HM.o _ K1.o).mono ?_);rintro en w2 ⟨rfl,b2⟩;have H:=qh (K1.o.trans (b2.mono K1.o.size));clear b2)|((with_reducible refine(HM.o _ RX.o).mono ?_);rintro en w2 ⟨rfl,b2⟩;have H:=qh (RX.o.trans (b2.mono RX.o.size));have HE:=qh (HA.o.below b2 HA.o.lt);have f0:=HE.o.free 0;have f1:=HE.o.free 1;have f2:=HE.o.cell 0;have f3:=HE.o.cell 1;clear b2)))
  all_goals
    first| (have O:=qh (And.intro (H.o.alloc H.o.size (cells #[J V,.bool Y] 129)) (Blk.new w2 129 #[J V,.bool Y]));obtain⟨gs,hV⟩:∃gs,gs=w2.alloc (cells #[J V,.bool Y] 129):=⟨_,rfl⟩;rw[<-hV];rw[<-hV]at O)| (have O:=qh (And.intro ((H.o.setCell Kl (p:=w1.heap.size) (J V)).setCell Kl (p:=⟨w1.heap.size,1,none⟩) (.bool Y)) ((HE.o.set_ 0 (J V)).set_ 1 (.bool Y)));obtain⟨gs,hV⟩:∃gs,gs=(w2.setCell ⟨w1.heap.size,0,none⟩ (J V)).setCell ⟨w1.heap.size,1,none⟩ (.bool Y):=⟨_,rfl⟩;rw[<-hV];rw[<-hV]at O)
    clear c0 c1 c2 c3 c4 c5 c6 hV;obtain⟨c0,c1,c2,c3,c4,c5,c6⟩:=I.o _ O.o.1;have d0:=O.o.2.cell 0;have d1:=O.o.2.cell 1;have q5:=(HS.o _ O.o.1).row.free (i*2);have q6:=(HS.o _ O.o.1).row.free (i*2+1)
    have HF:=qh (show Al w sb ab (L.set i (V,Y)) (returned (J 0)) ((gs.setCell ⟨ab,i*2,none⟩ (J V)).setCell ⟨ab,i*2+1,none⟩ (.bool Y)).drew from
      ⟨rfl,((HS.o _ O.o.1).put HX.o (V,Y)).below (Below.refl _ _).drew,(((aa.of_below (HB.o.trans (O.o.1.mono HB.o.size))).setCell (.inl ahC) _).setCell (.inl ahC) _).drew⟩)
    go_wp2;go_region;go_wp2;go_ret;exact HF.o
end
end
section
open Go Go.RowKit
def JP{O Y:Nat}{V:List (Int×Bool)}{e:Ev}(h:gF w O Y L)(hs:jk L e V):E 26 #[↑O,evV e] w (Al w O Y V):=by
  cases hs with
  | none k t r c hk=>exact Hw h k t c r hk
  | ask i r q c H=>exact xz h 1 c i r (.inl rfl) H (y:=(1,r)) λW b=>Gi i c r q
  | enter i r c H hw I=>exact xz h 2 c i r (.inr (.inl rfl)) H (y:=(2,r)) λW b=>Gj r (h.below b) hw I i c
  | exit i r c H=>exact xz h 3 c i r (.inr (.inr (.inl rfl))) H (y:=(3,r)) λW b=>Gk i c r
  | rest i r c H=>exact xz h 4 c i r (.inr (.inr (.inr rfl))) H (y:=(0,false)) λW b=>Gl i c r
structure LkM.Seen{n:Nat}(M:LkM n):Prop where
 sO:∀st N i j,M.ok st N->N<lkB->i<n->j<n->j≠i->M.sp (M.step st i) j=M.sp st j
 s1:∀st N i,M.ok st N->N<lkB->i<n->0<(M.sp st i).pc->(M.sp st i).pc<10->(0<(M.sp (M.step st i) i).pc/\(M.sp (M.step st i) i).pc<=10)/\rdB M.rd (M.sp (M.step st i) i)=rdB M.rd (M.sp st i)
 s3:∀st N i,M.ok st N->N<lkB->i<n->10<(M.sp st i).pc->(M.sp (M.step st i) i).pc=0\/10<(M.sp (M.step st i) i).pc/\rdB M.rd (M.sp (M.step st i) i)=rdB M.rd (M.sp st i)
 aO:∀st N i r j,M.ok st N->N<lkB->i<n->j<n->j≠i->M.sp (M.ask st i r) j=M.sp st j
 a1:∀st N i r,M.ok st N->N<lkB->i<n->(M.sp st i).pc=0->(r=true->M.rd=true)->(0<(M.sp (M.ask st i r) i).pc/\(M.sp (M.ask st i r) i).pc<10)/\rdB M.rd (M.sp (M.ask st i r) i)=r
 aN:∀st N i r,M.ok st N->N<lkB->i<n->(M.sp st i).pc≠0->M.sp (M.ask st i r) i=M.sp st i
 lO:∀st N i j,M.ok st N->N<lkB->i<n->j<n->j≠i->M.sp (M.leave st i) j=M.sp st j
 l1:∀st N i,M.ok st N->N<lkB->i<n->(M.sp st i).pc=10->10<(M.sp (M.leave st i) i).pc/\rdB M.rd (M.sp (M.leave st i) i)=rdB M.rd (M.sp st i)
 lN:∀st N i,M.ok st N->N<lkB->i<n->(M.sp st i).pc≠10->M.sp (M.leave st i) i=M.sp st i
section
variable{n:Nat}{M:LkM n}{st st':M.σ}{N:Nat}
def LkM.view(M:LkM n)(st:M.σ):List (Int×Bool):=(List.range n).map λi=>(M.stt st i,M.rds st i)
def kr(hi:i<n):(M.view st)[i]? =some (M.stt st i,M.rds st i):=by unfold LkM.view;rw[List.getElem?_map,List.getElem?_range hi];rfl
def qL{j:Nat}(h:(M.view st)[j]? =some x):j<n/\x=(M.stt st j,M.rds st j):=by
 have I:=(List.getElem?_eq_some_iff.1 h).1;have H:j<n:=by simpa[LkM.view]using I
 rw[kr H]at h;exact⟨H,(Option.some.inj h).symm⟩
def jj(hi:i<n)(I:(M.stt st' i,M.rds st' i)=y)(h:∀j,j<n->j≠i->M.sp st' j=M.sp st j):M.view st'=(M.view st).set i y:=by
 apply List.ext_getElem?;intro j;rw[List.getElem?_set];by_cases H:j<n
 .rw[kr H,kr H];by_cases e:i=j;.subst e;rw[if_pos rfl,if_pos (by simpa[LkM.view]using hi),I]
  .rw[if_neg e];unfold LkM.stt LkM.rds;rw[h j H (λq=>e q.symm)]
 .have h1:(M.view st')[j]? =none:=List.getElem?_eq_none (by simpa[LkM.view]using H);have O:(M.view st)[j]? =none:=List.getElem?_eq_none (by simpa[LkM.view]using H);rw[h1,O];split
  .split;.rename_i e q;subst e;exact absurd hi H
   .rfl
  .rfl
def qK(I:M.sp st' i=M.sp st i)(h:∀j,j<n->j≠i->M.sp st' j=M.sp st j):M.view st'=M.view st:=by
 unfold LkM.view;apply List.map_congr_left;intro j H;have H:=List.mem_range.1 H;unfold LkM.stt LkM.rds;by_cases e:j=i;.rw[e,I]
 .rw[h j H e]
def iz{pc:Int}(h:0<=pc):(iG pc=0↔pc=0)/\(iG pc=1↔0<pc/\pc<10)/\(iG pc=2↔pc=10)/\(iG pc=3↔10<pc):=by
 unfold iG;split;.omega
 .split;.omega
  .split<;>omega
def jX{st:M.σ}(h:(M.sp st i).pc≠0):M.rds st i=rdB M.rd (M.sp st i):=by unfold LkM.rds wH;simp[h]
def un{st:M.σ}(h:(M.sp st i).pc=0):M.rds st i=false:=by unfold LkM.rds wH;simp[h]
def EE(G:M.Good)(gs:M.Seen)(h:M.ok st N)(hN:N<lkB)(ab:N+1<lkB)(p:Int×Int):jk (M.view st) (M.pick st p).1 (M.view (M.pick st p).2)/\((M.pick st p).1.kind≠0->(M.pick st p).1.thread=p.1):=by
 obtain⟨t,k⟩:=p;unfold LkM.pick;simp only;by_cases hi:0<=t/\t<n
 .obtain⟨i,rfl⟩:=Int.eq_ofNat_of_zero_le hi.1;have hin:i<n:=by omega
  rw[if_pos hi,Int.toNat_natCast];have hp:=G.pcs st N i h hin;obtain⟨z0,z1,z2,z3⟩:=iz hp;have hg:=kr (M:=M) (st:=st) hin;split
  .unfold LkM.stepE;split
   .rename_i hs;have MA:=z1.1 hs;have q:=gs.s1 st N i h hN hin MA.1 MA.2;have I:=jX (M:=M) (st:=st) (i:=i) ahB;have Y:=jX (M:=M) (st:=M.step st i) (i:=i) ahB;have e:M.rds (M.step st i) i=M.rds st i:=(by rw[I,Y,q.2]);have KN:=iz (pc:=(M.sp (M.step st i) i).pc) ahB;rw[hs]at hg;cases hc:di (M.sp st i) (M.sp (M.step st i) i)
    .have MH:=of_decide_eq_false hc;have s1:M.stt (M.step st i) i=1:=KN.2.1.2 ahB;rw[if_neg ahD];refine⟨?_,λq=>absurd rfl q⟩;have:=jj (M:=M) (st:=st) (st':=M.step st i) hin (y:=(1,M.rds st i)) (by rw[s1,e]) (λj V H=>gs.sO st N i j h hN hin V H);simp only
     rw[this,show(M.view st).set i (1,M.rds st i)=M.view st from by
      apply List.ext_getElem?;intro j;rw[List.getElem?_set];split;.exact aaj
      .rfl]
     exact .none 0 i _ 0 (.inl rfl)
    .have MH:=of_decide_eq_true hc;have s2:M.stt (M.step st i) i=2:=KN.2.2.1.2 ahB;rw[if_pos rfl];refine⟨?_,λ_=>rfl⟩;simp only;rw[jj (M:=M) (st:=st) (st':=M.step st i) hin (y:=(2,M.rds st i)) (by rw[s2,e]) (λj V H=>gs.sO st N i j h hN hin V H)];have mT:=G.okS st N i h hN hin;have Xv:=KN.2.2.1.1 s2
     have one:∀j,j<n->j≠i->(M.sp st j).pc=10->rdB M.rd (M.sp st j)=true/\rdB M.rd (M.sp st i)=true:=λj V H Wv=>by
      have hO:=gs.sO st N i j h hN hin V H;constructor
      .cases hb:rdB M.rd (M.sp st j);.exact absurd (G.one _ _ j i mT V hin (by rw[hO];exact Wv) Xv (by rw[hO];exact hb)) H
       .rfl
      .cases hb:rdB M.rd (M.sp st i);.exact absurd (G.one _ _ i j mT hin V Xv (by rw[hO];exact Wv) (by rw[q.2];exact hb)).symm H
       .rfl
     refine .enter i _ _ hg (λj V=>?_) (λSJ j V=>?_)
     .obtain⟨Mq,he⟩:=qL V;injection he with e1 e2;have UR:=(iz (G.pcs st N j h Mq)).2.2.1.1 e1.symm;by_cases H:j=i;.subst H;omega
      .have:=(one j Mq H UR).1;rw[<-jX (M:=M) ahB,<-e2]at this;cases this
     .obtain⟨Mq,he⟩:=qL V;injection he with e1 e2;have UR:=(iz (G.pcs st N j h Mq)).2.2.1.1 e1.symm;by_cases H:j=i;.subst H;omega
      .have:=(one j Mq H UR).2;rw[<-I,SJ]at this;cases this
   .split
    .rename_i hs;have MA:=z3.1 hs;have q:=gs.s3 st N i h hN hin MA;have I:=jX (M:=M) (st:=st) (i:=i) ahB;rw[hs]at hg;cases hc:di (M.sp st i) (M.sp (M.step st i) i)
     .have MH:=of_decide_eq_false hc;rcases q with q|q
      .omega
      have Y:=jX (M:=M) (st:=M.step st i) (i:=i) ahB;have e:M.rds (M.step st i) i=M.rds st i:=(by rw[I,Y,q.2]);have s3:M.stt (M.step st i) i=3:=(iz (pc:=(M.sp (M.step st i) i).pc) ahB).2.2.2.2 q.1;refine⟨?_,λq=>absurd rfl q⟩
      have O:M.view (M.step st i)=M.view st:=by
       rw[jj (M:=M) (st:=st) (st':=M.step st i) hin (y:=(3,M.rds st i)) (by rw[s3,e]) (λj V H=>gs.sO st N i j h hN hin V H)];apply List.ext_getElem?;intro j;rw[List.getElem?_set];split;.exact aaj
       .rfl
      simp only;rw[O];exact .none 0 i _ 0 (.inl rfl)
     .have MH:=of_decide_eq_true hc;rcases q with q|q
      .have s0:M.stt (M.step st i) i=0:=(iz (pc:=(M.sp (M.step st i) i).pc) ahB).1.2 q;refine⟨?_,λ_=>rfl⟩;simp only;rw[jj (M:=M) (st:=st) (st':=M.step st i) hin (y:=(0,false)) (by rw[s0,un q]) (λj V H=>gs.sO st N i j h hN hin V H)];exact .rest i _ 0 hg
      .omega
    .exact⟨.none 0 i _ 0 (.inl rfl),λq=>absurd rfl q⟩
  .split
   .unfold LkM.askE;split;.exact aak
    .rename_i MY;generalize decide (k=3)=r at MY ⊢;by_cases hc:(M.sp st i).pc=0/\(r=true->M.rd=true);.rw[decide_eq_true hc,if_pos rfl];have q:=gs.a1 st N i r h hN hin hc.1 hc.2;have Y:=jX (M:=M) (st:=M.ask st i r) (i:=i) ahB;refine⟨?_,λ_=>rfl⟩;simp only;rw[jj (M:=M) (st:=st) (st':=M.ask st i r) hin (y:=(1,r)) (by rw[Y,q.2,show M.stt (M.ask st i r) i=1 from(iz (pc:=(M.sp (M.ask st i r) i).pc) ahB).2.1.2 q.1]) (λj V H=>gs.aO st N i r j h hN hin V H)];refine .ask i r (M.rds st i) 0 ?_;rw[hg,show M.stt st i=0 from z0.2 hc.1]
     .rw[decide_eq_false hc,if_neg ahD];have Ki:(M.sp st i).pc≠0:=λe=>hc ⟨e,λer=>by subst er;simpa using MY⟩;refine⟨?_,λ_=>rfl⟩;simp only;rw[qK (M:=M) (st:=st) (st':=M.ask st i r) (gs.aN st N i r h hN hin Ki) (λj V H=>gs.aO st N i r j h hN hin V H)];exact .none 5 i _ 0 (.inr rfl)
   .split
    .unfold LkM.leaveE;split;.exact aak
     .rename_i MY;generalize decide (k=4)=r at MY ⊢;have er:M.rds st i=r:=(by simpa using MY);by_cases hc:(M.sp st i).pc=10;.rw[decide_eq_true hc,if_pos rfl];have q:=gs.l1 st N i h hN hin hc;have Y:=jX (M:=M) (st:=M.leave st i) (i:=i) ahB;have I:=jX (M:=M) (st:=st) (i:=i) ahB;refine⟨?_,λ_=>rfl⟩;simp only;rw[jj (M:=M) (st:=st) (st':=M.leave st i) hin (y:=(3,r)) (by rw[Y,q.2,<-I,er,show M.stt (M.leave st i) i=3 from(iz (pc:=(M.sp (M.leave st i) i).pc) ahB).2.2.2.2 q.1]) (λj V H=>gs.lO st N i j h hN hin V H)];refine .exit i r 0 ?_;rw[hg,show M.stt st i=2 from z2.2 hc,er]
      .rw[decide_eq_false hc,if_neg ahD];refine⟨?_,λ_=>rfl⟩;simp only;rw[qK (M:=M) (st:=st) (st':=M.leave st i) (gs.lN st N i h hN hin hc) (λj V H=>gs.lO st N i j h hN hin V H)];exact .none 5 i _ 0 (.inr rfl)
    .exact aak
 .rw[if_neg hi];exact⟨.none 0 0 _ 0 (.inl rfl),λq=>absurd rfl q⟩
end
end
end Go.Proofs.YtglokdbiggbkjaaGreat
