/- Joined texts. -/
import Derived.Test.YtglokdbiggbkjaaGreatRows
import Derived.WalkKit
import Derived.ProofKit
import Derived.ChangeOld
import Derived.WalkSpells
import Derived.WalkLawsBesides
import Derived.Below
import Derived.Outline
import Derived.Lib.Hide
import Derived.Deep.QuietTactic
import Derived.BigQuiet
import Derived.Deep.Draws
import Derived.Maps.OwnSet
import Derived.Maps.OwnOps
import Derived.OpenShut
import Derived.Deep.Slices
import Derived.Deep.Fields
import Derived.ChangeSame
import Derived.Carry
import GoSem.Core.View
import Derived.RegionCalls
import Derived.StillTailTactics
import Derived.Laws.LoneSync
import Derived.Laws.OwnMore
import Derived.OwnWalk
import Derived.Test.YtglokdbiggbkjaaGreatMgLocksSafe0
set_option linter.unusedVariables false
set_option linter.unusedSimpArgs false
set_option maxRecDepth 100000
set_option maxHeartbeats 16000000
namespace Go.Proofs.YtglokdbiggbkjaaGreat
section
open Go.ChangeShapes Go.WideShapes Go.ChangeAt Go.RowKit
theorem r8:laidOutB Tryz.pinned.checked.prog=true:=by kernel_rfl
theorem uj:mapsRowed Tryz.pinned.checked.prog=true:=by kernel_rfl
theorem sT:(Tryz.pinned.checked.prog).stopsHeard=true:=by kernel_rfl
theorem xR:(Tryz.pinned.checked.prog).mayEnter=true:=by kernel_rfl
end
section
open Go.RowKit
def RdL{α:Type}(w:World)(v:Value)(sz:Nat)(enc:α->List Value)(l:List α):Prop:=
 ∃A cap,v= .slice A l.length cap/\l.length<=cap/\l.length<=140737488355328/\
  (0<l.length->∃b off,A=some ⟨b,off,none⟩/\b<w.heap.size/\∀i x,l[i]? =some x->∀j u,(enc x)[j]? =some u->w.cell? ⟨b,off+i*sz+j,none⟩=some u)
def Qt (w w':World):Prop:=∃n,w'=w.drewN n
theorem Qt.refl (w:World):Qt w w:=⟨0,rfl⟩
theorem Qt.trans{a b c:World}(h:Qt a b)(k:Qt b c):Qt a c:=by obtain⟨n,rfl⟩:=h;obtain⟨m,rfl⟩:=k;exact⟨n+m,by rw[World.drewN_drewN]⟩
theorem cE{B:Nat}{a w:World}(h:Below B a w)(n:Nat):Below B a (w.drewN n):=⟨h.os,h.tape,h.output,h.size,h.block⟩
theorem Qt.below{w w':World}(h:Qt w w')(B:Nat):Below B w w':=by obtain⟨n,rfl⟩:=h;exact cE (Below.refl _ _) n
theorem aQ{w:World}{a:Addr}{v:Value}(h:w.cell? a=some v):a.block<w.heap.size:=World.block_lt_of_cell? w a h
section
variable{α:Type}{w w':World}{v:Value}{sz:Nat}{enc:α->List Value}{l:List α}
theorem RdL.keep (h:RdL w v sz enc l)(hs:w.heap.size<=w'.heap.size)(hk:∀p:Addr,p.block<w.heap.size->w'.cell? p=w.cell? p):RdL w' v sz enc l:=by obtain⟨A,cap,h1,h2,h3,h4⟩:=h;refine⟨A,cap,h1,h2,h3,λhn=>?_⟩;obtain⟨b,off,e,hb,hc⟩:=h4 hn;exact⟨b,off,e,by omega,λi x hx j u hu=>(hk _ hb).trans (hc i x hx j u hu)⟩
theorem RdL.below (h:RdL w v sz enc l){B:Nat}(hb:Below B w w')(hB:w.heap.size<=B):RdL w' v sz enc l:=
 h.keep hb.size λp hp=>hb.cell QX
theorem RdL.drewN (h:RdL w v sz enc l)(n:Nat):RdL (w.drewN n) v sz enc l:=h
theorem RdL.qt (h:RdL w v sz enc l)(q:Qt w w'):RdL w' v sz enc l:=by obtain⟨n,rfl⟩:=q;exact h
theorem RdL.alloc (h:RdL w v sz enc l)(o:Obj):RdL (w.alloc o) v sz enc l:=h.keep QY λp hp=>World.cell?_alloc_lt w o p hp
theorem RdL.setCell (h:RdL w v sz enc l){B:Nat}(hb:∀b off cap,v= .slice (some ⟨b,off,none⟩) l.length cap->b<B){p:Addr}(hp:B<=p.block)(u:Value):RdL (w.setCell p u) v sz enc l:=by obtain⟨A,cap,h1,h2,h3,h4⟩:=h;refine⟨A,cap,h1,h2,h3,λhn=>?_⟩;obtain⟨b,off,e,hbb,hc⟩:=h4 hn;have hlt:b<B:=hb b off cap (by rw[h1,e]);exact⟨b,off,e,by simpa[World.setCell]using hbb,λi x hx j u' hu=>(World.cell?_setCell_other w p _ u (λe=>by subst e;simp at hp;omega)).trans (hc i x hx j u' hu)⟩
theorem RdL.nil:RdL w (.slice none 0 0) sz enc []:=⟨none,0,rfl,by simp,by simp,by simp⟩
end
theorem dt {α:Type} (enc:α->List Value) (sz:Nat) (hs:∀x,(enc x).length=sz) (l:List α):
    ∀i x j u,l[i]? =some x->(enc x)[j]? =some u->(l.flatMap enc)[i*sz+j]? =some u:=by
  induction l with
  | nil=>intro i x j u h;simp at h
  | cons a l ih=>
    intro i x j u h hu;have hj:j<sz:=(by have:=(List.getElem?_eq_some_iff.1 hu).1;rw[hs]at this;exact this);cases i with
    | zero=>simp at h;subst h;rw[List.flatMap_cons,List.getElem?_append_left (by rw[hs];omega)];simpa using hu
    | succ i=>rw[List.flatMap_cons,List.getElem?_append_right (by rw[hs,Nat.succ_mul];omega),hs];have:(i+1)*sz+j-sz=i*sz+j:=(by rw[Nat.succ_mul];omega);rw[this];exact ih i x j u (by simpa using h) hu
theorem RdL.of_own {α:Type} {w:World} {base:Nat} {e:TypeId} {sz:Nat} {v:Value} {n:Nat} {enc:α->List Value} {l:List α} (hs:∀x,(enc x).length=sz)
    (hn:n=l.length) (hcap:l.length<=140737488355328) (h:w.ownsRow base e sz v n (l.flatMap enc)):RdL w v sz enc l:=by
  subst hn;rcases h.2 with⟨rfl,h0⟩|⟨g,cap,cur,rfl,hb,hg,hnc,hcm,hcs,ht⟩
  · have:l=[]:=List.eq_nil_of_length_eq_zero h0;subst this;exact RdL.nil
  · refine⟨some ⟨g,0,none⟩,cap,rfl,hnc,hcap,λ_=>⟨g,0,rfl,(Array.getElem?_eq_some_iff.1 hg).1,?_⟩⟩;intro i x hx j u hu;have hc:=h.cells (g:=g) rfl (i*sz+j) u (dt enc sz hs l i x j u hx hu);have hadd:(⟨g,0,none⟩:Addr).add (i*sz+j)=⟨g,0+i*sz+j,none⟩:=(by unfold Addr.add;split<;>simp_all);rw[hadd]at hc;exact hc
theorem aj{α:Type}{l:List α}{k:Nat}(h:k<l.length):∃x,l[k]? =some x:=⟨l[k],List.getElem?_eq_getElem h⟩
theorem dg{α:Type}{l:List α}{k:Nat}{x:α}(h:l[k]? =some x):l.take (k+1)=l.take k++[x]:=by rw[List.take_add_one,h];rfl
theorem dS {P:Program} {f:FuncId} {args:Array Value} {w:World} {n:Nat} {v:Value}
    (h:Calls P f args (w.drewN n) λe w'=>e= .returned v/\w.drewN n=w'):Calls P f args (w.drewN n) λe w''=>e= .returned v/\∃m,w''=w.drewN m:=
  h.mono λ_ _ ⟨he,hm⟩=>⟨he,n,hm.symm⟩
theorem Bb {P:Program} {f:FuncId} {args:Array Value} {w:World} {n:Nat} {v:Value}
    (h:Calls P f args (w.drewN n) λe w'=>e= .returned v/\Qt (w.drewN n) w'):Calls P f args (w.drewN n) λe w''=>e= .returned v/\∃m,w''=w.drewN m:=
  h.mono λ_ _ ⟨he,m,hm⟩=>⟨he,n+m,by rw[hm,World.drewN_drewN]⟩
def encI (z:Int):List Value:=[.int .i64 z]
theorem zJ (z:Int):(encI z).length=1:=rfl
def Blk (w:World)(g:Nat)(t:TypeId)(cs:Array Value):Prop:=w.heap[g]? =some (.cells cs t (0,0))
section
variable{w w':World}{g:Nat}{t:TypeId}{cs:Array Value}
theorem Blk.lt (h:Blk w g t cs):g<w.heap.size:=lt_of_block h
theorem Blk.cell (h:Blk w g t cs)(i:Nat):w.cell? ⟨g,i,none⟩=cs[i]?:=cell_of_row w g i cs t (0,0) h
theorem Blk.free (h:Blk w g t cs)(i:Nat):w.frozen? ⟨g,i,none⟩=false:=by unfold Blk at h;simp[World.frozen?,h]
theorem Blk.new (w:World)(t:TypeId)(cs:Array Value):Blk (w.alloc (.cells cs t)) w.heap.size t cs:=heap_alloc_new w _
theorem Blk.new' (w:World)(t:TypeId)(cs:Array Value){g:Nat}(hg:g=w.heap.size):Blk (w.alloc (.cells cs t)) g t cs:=by subst hg;exact heap_alloc_new w _
theorem Blk.drewN (h:Blk w g t cs)(n:Nat):Blk (w.drewN n) g t cs:=h
theorem Blk.drew (h:Blk w g t cs):Blk w.drew g t cs:=h
theorem Blk.alloc (h:Blk w g t cs)(o:Obj):Blk (w.alloc o) g t cs:=(Below.heap_alloc w o g h.lt).trans h
theorem Blk.set_ (h:Blk w g t cs)(i:Nat)(u:Value):Blk (w.setCell ⟨g,i,none⟩ u) g t (cs.setIfInBounds i u):=by unfold Blk at h ⊢;simp[World.setCell,Array.getElem?_modify,h]
theorem Blk.far (h:Blk w g t cs){p:Addr}(hp:g≠p.block)(u:Value):Blk (w.setCell p u) g t cs:=(Below.heap_setCell w p u g hp).trans h
theorem Blk.below{B:Nat}(h:Blk w g t cs)(hb:Below B w w')(hg:g<B):Blk w' g t cs:=(hb.block g hg).trans h
theorem Blk.grown{row:Option Nat}(h:Blk w g t cs)(hb:w.grownBy w' row)(hg:some g≠row):Blk w' g t cs:=(hb.block g h.lt hg).trans h
end
theorem tY (w:World)(row:Option Nat):w.grownBy w row:=⟨rfl,rfl,rfl,Nat.le_refl _,λ_ _ _=>rfl⟩
theorem xz{a w:World}{g:Nat}(h:a.grownBy w (some g))(o:Nat)(u:Value):a.grownBy (w.setCell ⟨g,o,none⟩ u) (some g):=
 ⟨h.os,h.tape,h.output,by simpa[World.setCell]using h.size,λi hi hne=>(Below.heap_setCell w ⟨g,o,none⟩ u i (by
  rintro rfl
  exact hne rfl)).trans (h.block i hi hne)⟩
def zK (p:Int×Int):List Value:=[.int .i64 p.1,.int .i64 p.2]
theorem az{a b:Bool}(h:a=b):Ending.returned (.bool a)= .returned (.bool b):=by rw[h]
theorem aT{k:IntKind}{a b:Int}(h:a=b):Ending.returned (.int k a)= .returned (.int k b):=by rw[h]
theorem bO{w:World}{base:Nat}{e:TypeId}{sz:Nat}{v:Value}{n:Nat}{xs:List Value}(h:w.ownsRow base e sz v n xs):∃A c,v= .slice A n c:=by
 rcases h.2 with⟨rfl,rfl⟩|⟨g,cap,cur,rfl,_⟩
 ·exact⟨_,_,rfl⟩
 ·exact⟨_,_,rfl⟩
theorem gA {w:World} {base:Nat} {e:TypeId} {sz:Nat} {v:Value} {n:Nat} {xs:List Value} (h:w.ownsRow base e sz v n xs) (hn:0<n):
    ∃g c,v= .slice (some ⟨g,0,none⟩) n c/\base<=g/\g<w.heap.size:=by
  rcases h.2 with⟨rfl,rfl⟩|⟨g,cap,cur,rfl,hb,hg,_⟩
  · omega
  · exact⟨_,_,rfl,hb,(Array.getElem?_eq_some_iff.1 hg).1⟩
end
section
open Go.RowKit Go.Maps
structure Ev where
 kind:Int
 thread:Int
 read:Bool
 count:Int
structure Fz where
 thread:Int
 read:Bool
 ask:Int
 enter:Int
 exit:Int
 rest:Int
 count:Int
instance:DecidableEq Ev:=λa b=>decidable_of_iff (a.kind=b.kind/\a.thread=b.thread/\a.read=b.read/\a.count=b.count) (by cases a;cases b;simp)
instance:DecidableEq Fz:=λa b=>decidable_of_iff (a.thread=b.thread/\a.read=b.read/\a.ask=b.ask/\a.enter=b.enter/\a.exit=b.exit/\a.rest=b.rest/\a.count=b.count) (by cases a;cases b;simp)
def actS (t:Int)(s:Fz):Bool:=decide (s.thread=t/\s.rest<0)
theorem pe{α:Type}(l:List α)(x:α)(i:Nat):(l++[x])[i]? =if i<l.length then l[i]? else if i=l.length then some x else none:=by
 split;·rw[List.getElem?_append_left QX]
 ·split;·subst i;simp
  ·rw[List.getElem?_eq_none];simp;omega
end
section
open Go.RowKit Go.ChangeShapes Go.WideShapes Go.Deep
theorem kM{α:Type}(Q:Nat->α->Prop):∀n:Nat,(∀i,i<n->∃x,Q i x)->∃l:List α,l.length=n/\∀i x,l[i]? =some x->Q i x
 |0,_=>⟨[],rfl,by intro i x h;simp at h⟩
 |n+1,h=>by
  obtain⟨l,hl,hq⟩:=kM Q n (λi hi=>h i QX);obtain⟨y,hy⟩:=h n QX;refine⟨l++[y],by simp[hl],λi x hx=>?_⟩;rw[pe]at hx;split at hx;·exact hq i x hx
  ·split at hx;·rename_i _ he;injection hx with hx;subst hx;rw[he,hl];exact hy
   ·cases hx
section
variable{H:Type}{enc:TypeId×Value->H}{P:Program}{w:World}{base:Nat}{spare:Nat->Bool}{held:Bool}
theorem fJ{b off:Nat}(j:Nat):(⟨b,off,none⟩:Addr).add j=⟨b,off+j,none⟩:=by unfold Addr.add;split<;>simp_all
theorem sH {t e:TypeId} {fuel:Nat} {v:Value} {x:DataW H×List MemPlace} (ht:P.underlying t=some (.slice e)) (he:P.underlying e=some (.int .i64)) (hc:P.cellsOf e=1)
    (h:DataW.trod enc P w base spare held fuel t [v]=some x):
    ∃A cap zs,v= .slice A zs.length cap/\zs.length<=maxLen/\(zs.length<=140737488355328->RdL w v 1 encI zs)/\∀z∈zs,(Lit.int .i64 z).wf=true:=by
  rcases open_ints ht he hc h with⟨hcs,_⟩|⟨a,len,cap,zs,hcs,_,hl,hm,hz,_,hcell,hwf⟩
  · simp at hcs;subst hcs;exact⟨none,0,[],rfl,by simp,λ_=>RdL.nil,by simp⟩
  · simp at hcs;subst hcs;have hzl:len<=zs.length:=(by rw[hz];split<;>omega);refine⟨some a,cap,zs.take len,by simp[hzl],by simp;omega,λhb=>?_,λz hzm=>hwf z (List.mem_of_mem_take hzm)⟩;have hlen:(zs.take len).length=len:=(by simp[hzl]);refine⟨some a,cap,by rw[hlen],by omega,hb,λhn=>?_⟩;rw[hlen]at hn;have h0:=hcell 0 QX;obtain⟨b,off,spot⟩:=a;have hs:spot=none:=(by simpa[Addr.add]using World.cell?_spot h0);subst hs;refine⟨b,off,rfl,World.block_lt_of_cell? w _ (by rw[fJ]at h0;exact h0),λi y hy j u hu=>?_⟩;have hi:i<len:=(by have:=(List.getElem?_eq_some_iff.1 hy).1;rw[hlen]at this;exact this);have hc':=hcell i QX;rw[fJ]at hc';have hj:j=0:=(by have:=(List.getElem?_eq_some_iff.1 hu).1;simp[encI]at this;exact this);subst hj;have hy2:zs.getD i 0=y:=(by rw[List.getElem?_take,if_pos hi]at hy;rw[List.getD_eq_getElem?_getD,hy];rfl);have hu2:u= .int .i64 y:=(by simpa[encI]using hu.symm);rw[Nat.mul_one,Nat.add_zero,hc',hu2,hy2]
theorem kU {t e:TypeId} {fs:Array Field} {fuel:Nat} {cs:List Value} {x:DataW H×List MemPlace} (ht:P.underlying t=some (.slice e)) (he:P.underlying e=some (.struct fs))
    (hone:oneCellFields P fs=true) (hC:P.cellsOf e=fs.size) (h:DataW.trod enc P w base spare held fuel t cs=some x):
    cs=[.slice none 0 0]\/
    ∃(a:Addr) (len cap:Nat),cs=[.slice (some a) len cap]/\len<=cap/\cap<=maxLen/\
      ∀i,i<len->∀(j:Nat) (f:Field),fs[j]? =some f->∃(v:Value) (n:Nat) (y:DataW H×List MemPlace),w.cell? (a.add (i*fs.size+j))=some v/\DataW.trod enc P w base spare held n f.type [v]=some y:=by
  rcases open_slice ht h with h0|⟨a,len,cap,m,n,D,Pl,hcs,hb,hl,hm,hmm,hx,hi⟩
  · exact .inl h0.1
  · refine .inr ⟨a,len,cap,hcs,hl,hm,λi hin j f hj=>?_⟩;have him:i<m:=(by rw[hmm];split<;>omega);obtain⟨cs',hc,ht'⟩:=hi i him;rw[hC]at hc;obtain⟨ys,n',hn',hy,hlen,hyl,hf⟩:=DataW.trod_struct he ht';obtain⟨_,hcl,hat⟩:=World.cells?_some hc;obtain⟨ho,hk⟩:=hone_of hone j f hj;have hjl:j<fs.size:=(Array.getElem?_eq_some_iff.1 hj).1;have hcell:=hat j hjl;have h1:=hf j f hj;rw[ho,hk]at h1;have hone':(cs'.drop j).take 1=[cs'[j]' QX]:=(by rw[List.drop_eq_getElem_cons QX];rfl);rw[hone']at h1;have hys:ys[j]? =some (ys[j]' QX):=List.getElem?_eq_getElem QX;refine⟨cs'[j]' QX,n',ys[j]' QX,?_,h1.trans hys⟩;rw[<-Go.Deep.add_add,hcell];exact List.getElem?_eq_getElem QX
theorem x9 {r:Reach} {b0:Nat} {t e:TypeId} {k:IntKind} {fuel:Nat} {v:Value} {x:DataW H×List MemPlace} (ht:P.underlying t=some (.array 4 e)) (he:P.underlying e=some (.int k)) (hc:P.cellsOf e=1) (hC:P.cellsOf t=4)
    (hv:Value.okWide P w r b0 t v) (h:DataW.trod enc P w base spare held fuel t v.cells.toList=some x):∃n0 n1 n2 n3:Int,v= .agg #[.int k n0,.int k n1,.int k n2,.int k n3]/\(Lit.int k n0).wf=true/\(Lit.int k n1).wf=true/\(Lit.int k n2).wf=true/\(Lit.int k n3).wf=true:=by
  unfold Value.okWide at hv;rw[ht]at hv;obtain⟨cs,rfl,hsz,_⟩:=hv;rw[hC]at hsz;obtain⟨xs,m,_,_,_,hxl,hg⟩:=DataW.trod_array ht h;obtain⟨l⟩:=cs;match l,hsz with
  | [c0,c1,c2,c3],_=>
    match xs,hxl with
    | [y0,y1,y2,y3],_=>have g0:=hg 0 QX;have g1:=hg 1 QX;have g2:=hg 2 QX;have g3:=hg 3 QX;rw[hc]at g0 g1 g2 g3;simp[Value.cells]at g0 g1 g2 g3;obtain⟨a0,e0,_,w0⟩:=DataW.trod_int he g0;obtain⟨a1,e1,_,w1⟩:=DataW.trod_int he g1;obtain⟨a2,e2,_,w2⟩:=DataW.trod_int he g2;obtain⟨a3,e3,_,w3⟩:=DataW.trod_int he g3;simp at e0 e1 e2 e3;subst e0 e1 e2 e3;exact⟨a0,a1,a2,a3,rfl,w0,w1,w2,w3⟩
end
end
section
open Go.RowKit Go.ChangeShapes Go.WideShapes Go.Deep
theorem Tryz.cellsTopo:Tryz.prog.cellsOf 24=2:=by kernel_rfl
theorem Tryz.cellsInts:Tryz.prog.cellsOf 22=1:=by kernel_rfl
theorem Tryz.cellsInt:Tryz.prog.cellsOf 3=1:=by kernel_rfl
section
variable{H:Type}{enc:TypeId×Value->H}{w:World}{base:Nat}{spare:Nat->Bool}{held:Bool}
theorem ya {r:Reach} {b0 fuel:Nat} {v:Value} {x:DataW H×List MemPlace} (hv:Value.okWide Tryz.prog w r b0 24 v) (h:DataW.trod enc Tryz.prog w base spare held fuel 24 v.cells.toList=some x):
    ∃AP cP P AT cT T,v= .agg #[.slice AP (List.length (α:=Int) P) cP,.slice AT (List.length (α:=Int) T) cT]/\P.length<=maxLen/\T.length<=maxLen/\(P.length<=140737488355328->RdL w (.slice AP P.length cP) 1 encI P)/\(T.length<=140737488355328->RdL w (.slice AT T.length cT) 1 encI T):=by
  obtain⟨cs,rfl,hsz⟩:=okWide_struct Tryz.underlying24 hv;rw[Tryz.cellsTopo]at hsz;obtain⟨xs,m,_,_,_,hxl,hf⟩:=DataW.trod_struct Tryz.underlying24 h;obtain⟨l⟩:=cs;match l,hsz with
  | [c0,c1],_=>
    match xs,hxl with
    | [y0,y1],_=>have g0:=hf 0 _ rfl;have g1:=hf 1 _ rfl;simp[Value.cells,Tryz.cellsInts]at g0 g1;obtain⟨AP,cP,P,e0,m0,R0,_⟩:=sH Tryz.underlying22 Tryz.underlying3 Tryz.cellsInt g0;obtain⟨AT,cT,T,e1,m1,R1,_⟩:=sH Tryz.underlying22 Tryz.underlying3 Tryz.cellsInt g1;subst e0 e1;exact⟨AP,cP,P,AT,cT,T,rfl,m0,m1,R0,R1⟩
end
end
section
open Go.RowKit Go.ChangeShapes Go.WideShapes Go.Deep
section
variable{H:Type}{enc:TypeId×Value->H}{P:Program}{w:World}{base:Nat}{spare:Nat->Bool}{held:Bool}
theorem A4 {t e ti:TypeId} {f0 f1:Field} {fuel:Nat} {v:Value} {x:DataW H×List MemPlace} (ht:P.underlying t=some (.slice e)) (he:P.underlying e=some (.struct #[f0,f1]))
    (hone:oneCellFields P #[f0,f1]=true) (hC:P.cellsOf e=2) (h0:f0.type=ti) (h1:f1.type=ti) (hti:P.underlying ti=some (.int .i64))
    (h:DataW.trod enc P w base spare held fuel t [v]=some x):
    ∃A cap l,v= .slice A l.length cap/\l.length<=maxLen/\(l.length<=140737488355328->RdL w v 2 zK l):=by
  rcases kU ht he hone (by rw[hC];rfl) h with hcs|⟨a,len,cap,hcs,hl,hm,hf⟩
  · simp at hcs;subst hcs;exact⟨none,0,[],rfl,by simp,λ_=>RdL.nil⟩
  · simp at hcs;subst hcs;have each:∀i,i<len->∃z:Int×Int,w.cell? (a.add (i*2+0))=some (.int .i64 z.1)/\w.cell? (a.add (i*2+1))=some (.int .i64 z.2):=(by intro i hi;obtain⟨v0,n0,y0,c0,r0⟩:=hf i hi 0 f0 rfl;obtain⟨v1,n1,y1,c1,r1⟩:=hf i hi 1 f1 rfl;rw[h0]at r0;rw[h1]at r1;obtain⟨a0,e0,_,w0⟩:=DataW.trod_int hti r0;obtain⟨a1,e1,_,w1⟩:=DataW.trod_int hti r1;simp at e0 e1;subst e0 e1;exact⟨(a0,a1),c0,c1⟩);obtain⟨l,hll,hq⟩:=kM _ len each;refine⟨some a,cap,l,by rw[hll],by omega,λhb=>?_⟩;refine⟨some a,cap,by rw[hll],by omega,hb,λhn=>?_⟩;obtain⟨z0,hz0⟩:=aj (show 0<l.length from hn);have hc0:=(hq 0 z0 hz0).1;obtain⟨b,off,spot⟩:=a;have hs:spot=none:=(by simpa[Addr.add]using World.cell?_spot hc0);subst hs;refine⟨b,off,rfl,World.block_lt_of_cell? w _ (by rw[fJ]at hc0;exact hc0),λi y hy j u hu=>?_⟩;have hc:=hq i y hy;simp only[fJ,<-Nat.add_assoc]at hc;have hj:j<2:=(by have:=(List.getElem?_eq_some_iff.1 hu).1;simpa[zK]using this);obtain rfl|rfl:j=0\/j=1:=by omega
    · rw[hc.1];simpa[zK]using hu
    · rw[hc.2];simpa[zK]using hu
end
end
section
open Go.RowKit
structure aa (S:List Nat)(w w':World):Prop where
 os:w'.os=w.os
 tape:w'.tape=w.tape
 output:w'.output=w.output
 size:w.heap.size<=w'.heap.size
 block:∀i,i<w.heap.size->i∉S->w'.heap[i]? =w.heap[i]?
section
variable{S T:List Nat}{a b c w w':World}
theorem aa.refl (S:List Nat)(w:World):aa S w w:=⟨rfl,rfl,rfl,Nat.le_refl _,λ_ _ _=>rfl⟩
theorem aa.trans (h:aa S a b)(k:aa S b c):aa S a c:=
 ⟨k.os.trans h.os,k.tape.trans h.tape,k.output.trans h.output,Nat.le_trans h.size k.size,λi hi hn=>(k.block i (Nat.lt_of_lt_of_le hi h.size) hn).trans (h.block i hi hn)⟩
theorem aa.mono (h:aa S a b)(hs:∀i∈S,i∈T):aa T a b:=⟨h.os,h.tape,h.output,h.size,λi hi hn=>h.block i hi λk=>hn (hs i k)⟩
theorem aa.fresh (h:aa S a b)(hs:∀i∈S,i∈T\/a.heap.size<=i):aa T a b:=
 ⟨h.os,h.tape,h.output,h.size,λi hi hn=>h.block i hi λk=>(hs i k).elim hn λh=>by omega⟩
theorem aa.alloc (h:aa S a w)(o:Obj):aa S a (w.alloc o):=
 ⟨h.os,h.tape,h.output,Nat.le_trans h.size QY,λi hi hn=>(Below.heap_alloc w o i (Nat.lt_of_lt_of_le hi h.size)).trans (h.block i hi hn)⟩
theorem aa.setCell (h:aa S a w){p:Addr}(hp:p.block∈S\/a.heap.size<=p.block)(u:Value):aa S a (w.setCell p u):=
 ⟨h.os,h.tape,h.output,by simpa[World.setCell]using h.size,λi hi hn=>(Below.heap_setCell w p u i (by
  rintro rfl
  rcases hp with hp|hp
  ·exact hn hp
  ·omega)).trans (h.block i hi hn)⟩
theorem aa.drewN (h:aa S a w)(n:Nat):aa S a (w.drewN n):=⟨h.os,h.tape,h.output,h.size,h.block⟩
theorem aa.drew (h:aa S a w):aa S a w.drew:=⟨h.os,h.tape,h.output,h.size,h.block⟩
theorem aa.of_below (h:Below a.heap.size a b):aa S a b:=⟨h.os,h.tape,h.output,h.size,λi hi _=>h.block i hi⟩
theorem aa.of_qt (h:Qt a b):aa S a b:=aa.of_below (h.below _)
theorem aa.below{B:Nat}(h:aa S a b)(hS:∀i∈S,B<=i)(hB:B<=a.heap.size):Below B a b:=
 ⟨h.os,h.tape,h.output,h.size,λi hi=>h.block i QX λk=>by have:=hS i k;omega⟩
theorem aa.blk{g:Nat}{t:TypeId}{cs:Array Value}(h:aa S w w')(hb:Blk w g t cs)(hg:g∉S):Blk w' g t cs:=(h.block g hb.lt hg).trans hb
theorem aa.grown{g:Nat}(h:w.grownBy w' (some g)):aa [g] w w':=⟨h.os,h.tape,h.output,h.size,λi hi hn=>h.block i hi (by intro e;injection e with e;exact hn (by simp[e]))⟩
theorem aa.own{base:Nat}{e:TypeId}{sz:Nat}{v:Value}{n:Nat}{xs:List Value}(h:w.ownsRow base e sz v n xs)(k:aa S w w')(hn:∀g,v.ownBlock=some g->g∉S):w'.ownsRow base e sz v n xs:=by
 cases hv:v.ownBlock with
 |none=>
  rcases h.2 with⟨rfl,h0⟩|⟨g,cap,cur,rfl,_⟩
  ·exact⟨h.1,.inl ⟨rfl,h0⟩⟩
  ·simp[Value.ownBlock]at hv
 |some g=>
  have hg:g∉S:=hn g hv;have hl:=(h.lt g hv).2;rcases h.2 with⟨rfl,h0⟩|⟨g',cap,cur,rfl,hb,hc,r⟩
  ·simp[Value.ownBlock]at hv
  ·have e:g'=g:=(by simpa[Value.ownBlock]using hv);subst e;exact⟨h.1,.inr ⟨g',cap,cur,rfl,hb,(k.block g' hl hg).trans hc,r⟩⟩
end
theorem aa.cellC{S:List Nat}{w w':World}(t:aa S w w'){p:Addr}(hp:p.block<w.heap.size)(hn:p.block∉S):w'.cell? p=w.cell? p:=by unfold World.cell?;rw[t.block _ hp hn]
end
section
open Go
structure Ar where
 W:List Int
 room:Nat
 ops:Nat
 k:Int
 at_:Int
 wr:Bool
def inR (W:List Int)(x:Int):Bool:=decide (1<=x/\x<=W.length)
def ldW (W:List Int)(x:Int):Int:=if inR W x then W.getD (x.toNat-1) 0 else 0
def stW (W:List Int)(x v:Int):List Int:=if inR W x then W.set (x.toNat-1) v else W
def fj (s:Ar)(k x:Int)(wr:Bool):Ar:=if inR s.W x then {s with ops:=s.ops+1,k:=k,at_:=x,wr:=wr} else s
def wrA (s:Ar)(x v:Int):Ar:={s with W:=stW s.W x v}
def ae (s:Ar)(x:Int):Ar:=fj s 1 x false
def ac (s:Ar)(x v:Int):Ar:=wrA (fj s 2 x true) x v
def bY (s:Ar)(x v:Int):Ar:=wrA (fj s 3 x true) x v
def cl (s:Ar)(x old:Int):Bool:=inR s.W x&&decide (ldW s.W x=old)
def dO (s:Ar)(x old v:Int):Ar:=if cl s x old then wrA (fj s 4 x true) x v else fj s 4 x false
def addA (s:Ar)(x d:Int):Ar:=wrA (fj s 5 x true) x (IntKind.i64.wrap (ldW s.W x+d))
theorem bE (W:List Int)(x v:Int):(stW W x v).length=W.length:=by unfold stW;split<;>simp
theorem aO{W:List Int}{x:Int}:inR W x=true↔1<=x/\x<=W.length:=by unfold inR;exact decide_eq_true_iff
theorem iD{W:List Int}{x:Int}:inR W x=false↔¬(1<=x/\x<=W.length):=by unfold inR;exact decide_eq_false_iff_not
structure Sp where
 pc:Int
 a:Int
 b:Int
 c:Int
def Sp.zero:Sp:=⟨0,0,0,0⟩
theorem Fb{p q:Sp}(h1:p.pc=q.pc)(h2:p.a=q.a)(h3:p.b=q.b)(h4:p.c=q.c):p=q:=by cases p;cases q;simp at *;exact⟨h1,h2,h3,h4⟩
def okI (S:List Sp)(i:Int):Prop:=0<=i/\i<S.length
instance (S:List Sp) (i:Int):Decidable (okI S i):=by unfold okI;infer_instance
def getS (S:List Sp)(i:Int):Sp:=if 0<=i/\i<S.length then S.getD i.toNat Sp.zero else Sp.zero
theorem dE{S:List Sp}{i:Int}(h:okI S i):S[i.toNat]? =some (getS S i):=by
 unfold getS;rw[if_pos (show 0<=i/\i<S.length from h),List.getD_eq_getElem?_getD];have:i.toNat<S.length:=by have:=h.1;have:=h.2;omega
 rw[List.getElem?_eq_getElem this];rfl
theorem du{S:List Sp}{i:Int}(h:¬okI S i):getS S i=Sp.zero:=by unfold getS;rw[if_neg (show ¬(0<=i/\i<S.length)from h)]
def sv (S:List Sp)(j:Nat):Sp:=S.getD j Sp.zero
theorem kF{α:Type}(l:List α)(i j:Nat)(a d:α):(l.set i a).getD j d=if i=j/\i<l.length then a else l.getD j d:=by
 rw[List.getD_eq_getElem?_getD,List.getD_eq_getElem?_getD,List.getElem?_set];by_cases h:i=j
 ·subst h;by_cases h2:i<l.length;·simp[h2]
  ·simp[h2]
 ·simp[h]
theorem cD (S:List Sp)(i j:Nat)(p:Sp):sv (S.set i p) j=if i=j/\i<S.length then p else sv S j:=kF _ _ _ _ _
theorem dG (s:Ar)(k x:Int)(wr:Bool):(fj s k x wr).W=s.W:=by unfold fj;split<;>rfl
theorem iM (s:Ar)(k x:Int)(wr:Bool)(h:inR s.W x=false):fj s k x wr=s:=by unfold fj;rw[h];rfl
theorem rc (s:Ar)(x v:Int)(h:inR s.W x=false):wrA s x v=s:=by unfold wrA stW;rw[h];rfl
theorem i6{W:List Int}{x:Int}(h:inR W x=true):ldW W x=W.getD (x.toNat-1) 0:=by unfold ldW;rw[if_pos h]
theorem kI{W:List Int}{x:Int}(h:inR W x=false):ldW W x=0:=by unfold ldW;rw[h];rfl
theorem wH (s:Ar)(x v:Int):(wrA s x v).W=stW s.W x v:=rfl
theorem aM (s:Ar)(x:Int):(ae s x).W=s.W:=dG _ _ _ _
theorem aw (s:Ar)(x v:Int):(ac s x v).W=stW s.W x v:=by unfold ac;rw[wH,dG]
theorem dI (s:Ar)(x v:Int):(bY s x v).W=stW s.W x v:=by unfold bY;rw[wH,dG]
theorem gG (s:Ar)(x o v:Int):(dO s x o v).W=if cl s x o then stW s.W x v else s.W:=by unfold dO;split<;>rename_i h<;>simp only[wH,dG]
theorem dR (s:Ar)(x d:Int):(addA s x d).W=stW s.W x (IntKind.i64.wrap (ldW s.W x+d)):=by unfold addA;rw[wH,dG]
theorem fD (s:Ar)(k x:Int)(wr:Bool):(fj s k x wr).ops<=s.ops+1:=by unfold fj;split<;>simp
theorem iF (s:Ar)(x:Int):(ae s x).ops<=s.ops+1:=fD _ _ _ _
theorem gS (s:Ar)(x v:Int):(ac s x v).ops<=s.ops+1:=fD _ _ _ _
theorem eP (s:Ar)(x v:Int):(bY s x v).ops<=s.ops+1:=fD _ _ _ _
theorem jl (s:Ar)(x d:Int):(addA s x d).ops<=s.ops+1:=fD _ _ _ _
theorem mZ (s:Ar)(x o v:Int):(dO s x o v).ops<=s.ops+1:=by unfold dO;split<;>exact fD _ _ _ _
theorem gf{W:List Int}{x:Int}(h:inR W x=true)(v y:Int):ldW (stW W x v) y=if y=x then v else ldW W y:=by
 obtain⟨h1,h2⟩:=aO.1 h;unfold ldW stW;rw[if_pos h];have e:inR (W.set (x.toNat-1) v) y=inR W y:=by unfold inR;rw[List.length_set]
 rw[e];by_cases hy:inR W y=true
 ·rw[if_pos hy,if_pos hy,List.getD_eq_getElem?_getD,List.getElem?_set];obtain⟨h3,h4⟩:=aO.1 hy;by_cases hxy:y=x;·subst hxy;rw[if_pos rfl,if_pos rfl,if_pos QX];rfl
  ·rw[if_neg hxy,if_neg QX,List.getD_eq_getElem?_getD]
 ·rw[if_neg hy,if_neg hy];rw[if_neg];rintro rfl;exact hy h
end
section
open Go.RowKit
def a9 (p:Sp):List Value:=[.int .i64 p.pc,.int .i64 p.a,.int .i64 p.b,.int .i64 p.c]
theorem iu (p:Sp):(a9 p).length=4:=rfl
def dq (w:World)(q:Nat)(S:List Sp):Prop:=Blk w q 113 (S.flatMap a9).toArray
theorem dq.cell{w:World}{q:Nat}{S:List Sp}(h:dq w q S){i:Nat}{p:Sp}(hp:S[i]? =some p)(j:Nat)(u:Value)(hu:(a9 p)[j]? =some u):w.cell? ⟨q,i*4+j,none⟩=some u:=by rw[Blk.cell h];simpa using dt a9 4 iu S i p j u hp hu
theorem vD {α:Type} (enc:α->List Value) (sz:Nat) (hs:∀x,(enc x).length=sz) (l:List α):
    ∀k x x' j u,l[k]? =some x->j<sz->(enc x).set j u=enc x'->(l.flatMap enc).set (k*sz+j) u=(l.set k x').flatMap enc:=by
  induction l with
  | nil=>intro k x x' j u h;simp at h
  | cons a l ih=>
    intro k x x' j u h hj he;cases k with
    | zero=>simp at h;subst h;rw[List.set_cons_zero,List.flatMap_cons,List.flatMap_cons,List.set_append_left _ _ (by rw[hs];omega)];simp[he]
    | succ k=>rw[List.set_cons_succ,List.flatMap_cons,List.flatMap_cons,List.set_append_right _ _ (by rw[hs,Nat.succ_mul];omega),hs];have:(k+1)*sz+j-sz=k*sz+j:=(by rw[Nat.succ_mul];omega);rw[this,ih k x x' j u (by simpa using h) hj he]
theorem dq.put {w:World} {q:Nat} {S:List Sp} (h:dq w q S) {i:Nat} {p p':Sp} (hp:S[i]? =some p) {j:Nat} {u:Value} (hj:j<4) (he:(a9 p).set j u=a9 p'):
    dq (w.setCell ⟨q,i*4+j,none⟩ u) q (S.set i p'):=by have h1:=Blk.set_ h (i*4+j) u;unfold dq;rw[List.setIfInBounds_toArray,vD a9 4 iu S i p p' j u hp hj he]at h1;exact h1
theorem dq.lt{w:World}{q:Nat}{S:List Sp}(h:dq w q S):q<w.heap.size:=Blk.lt h
theorem dq.free{w:World}{q:Nat}{S:List Sp}(h:dq w q S)(i:Nat):w.frozen? ⟨q,i,none⟩=false:=Blk.free h i
theorem dq.turns{w w':World}{q:Nat}{S:List Sp}{T:List Nat}(h:dq w q S)(k:aa T w w')(hq:q∉T):dq w' q S:=k.blk h hq
def aE (p:Sp):Value:= .agg #[.int .i64 p.pc,.int .i64 p.a,.int .i64 p.b,.int .i64 p.c]
theorem aK (a b c d:Int)(w:World):(Instr.field 113 (.agg #[.int .i64 a,.int .i64 b,.int .i64 c,.int .i64 d]) 0).run Tryz.prog w= .ok (.int .i64 a) w:=by kernel_rfl
end
section
open Go Go.RowKit
def lkP (lb:Nat):Value:= ↑lb
section
variable{n:Nat}{w:World}{lb:Nat}
theorem sW (hc:w.cell? ⟨lb,1,none⟩=some (.int .i64 n)):Calls Tryz.prog 53 #[lkP lb] w λe w'=>e= .returned (.int .i64 n)/\w=w':=by unfold lkP;go_enter Tryz.func53,Tryz.ntmps53;exact gs
theorem rZ (hc:w.cell? ⟨lb,1,none⟩=some (.int .i64 n))(i:Int)(r:Bool)(hr:decide (0<=i/\i<n)=r):Calls Tryz.prog 58 #[lkP lb,.int .i64 i] w λe w'=>e= .returned (.bool r)/\w=w':=by
 have HT:=qh (sW hc);obtain⟨v,hv⟩:∃v,v=lkP lb:=⟨_,rfl⟩;rw[<-hv]at HT ⊢;have HR:=qh hr;clear hc hv hr;by_cases h0:i<0;·have t0:decide (0<=i)=false:=decide_eq_false QX;have HF:Kq (r=false):=qh (by rw[<-HR.o];exact decide_eq_false QX);clear h0;go_enter Tryz.func58,Tryz.ntmps58;go_wp2;go_ret;exact⟨az HF.o.symm,rfl⟩
 ·have t0:decide (0<=i)=true:=decide_eq_true QX;have HF:Kq (r=decide (i<(n:Int))):=qh (by rw[<-HR.o];by_cases e:i<(n:Int)<;>simp[e];omega);clear h0;go_enter Tryz.func58,Tryz.ntmps58;go_wp2_with fail;refine HT.o.mono ?_;rintro en w' ⟨rfl,rfl⟩;go_wp2;go_ret;exact⟨az HF.o.symm,rfl⟩
end
end
section
open Go.RowKit
def gn (g:Nat)(s:Ar):Array Value:=#[.slice (some ⟨g,0,none⟩) s.room s.room,.int .i64 s.W.length,.int .i64 s.ops,.int .i64 s.k,.int .i64 s.at_,.bool s.wr]
def wdL (s:Ar):List Value:=(s.W++List.replicate (s.room-s.W.length) 0).map (Value.int .i64)
structure aA (w:World)(a g:Nat)(s:Ar):Prop where
 blk:Blk w a 106 (gn g s)
 wds:Blk w g 216 (wdL s).toArray
 ne:a≠g
 le:s.W.length<=s.room
 room:s.room<=4096
 ops:s.ops<=1000000000000
theorem aA.turns{w w':World}{a g:Nat}{s:Ar}{S:List Nat}(h:aA w a g s)(k:aa S w w')(ha:a∉S)(hg:g∉S):aA w' a g s:=
 ⟨k.blk h.blk ha,k.blk h.wds hg,h.ne,h.le,h.room,h.ops⟩
theorem aA.word{w:World}{a g:Nat}{s:Ar}(h:aA w a g s){i:Nat}(hi:i<s.W.length):w.cell? ⟨g,i,none⟩=some (.int .i64 (s.W.getD i 0))/\w.frozen? ⟨g,i,none⟩=false:=by refine⟨?_,h.wds.free i⟩;rw[h.wds.cell i];simp[wdL,List.getElem?_append,hi]
theorem Dx (s:Ar){i:Nat}(hi:i<s.W.length)(v:Int):(wdL s).toArray.setIfInBounds i (.int .i64 v)=(wdL {s with W:=s.W.set i v}).toArray:=by unfold wdL;simp only[List.setIfInBounds_toArray,List.length_set];congr 1;rw[<-List.map_set,List.set_append_left _ _ hi]
section
variable{w:World}{a g:Nat}{s:Ar}
theorem aA.c0 (h:aA w a g s):w.cell? a=some (.slice (some ⟨g,0,none⟩) s.room s.room):=h.blk.cell 0
theorem aA.c1 (h:aA w a g s):w.cell? ⟨a,1,none⟩=some (.int .i64 s.W.length):=h.blk.cell 1
theorem aA.c2 (h:aA w a g s):w.cell? ⟨a,2,none⟩=some (.int .i64 s.ops):=h.blk.cell 2
theorem aA.c3 (h:aA w a g s):w.cell? ⟨a,3,none⟩=some (.int .i64 s.k):=h.blk.cell 3
theorem aA.c4 (h:aA w a g s):w.cell? ⟨a,4,none⟩=some (.int .i64 s.at_):=h.blk.cell 4
theorem aA.c5 (h:aA w a g s):w.cell? ⟨a,5,none⟩=some (.bool s.wr):=h.blk.cell 5
end
theorem qz {w:World} {a g:Nat} {s:Ar} (h:aA w a g s):
    Calls Tryz.prog 112 #[↑a] w λe w'=>e= .returned (.int .i64 s.W.length)/\w=w':=by have c1:=h.c1;clear h;go_enter Tryz.func112,Tryz.ntmps112;go_wp2;go_ret;exact⟨rfl,rfl⟩
theorem mR {w:World} {a g:Nat} {s:Ar} (h:aA w a g s):
    Calls Tryz.prog 14 #[↑a] w λe w'=>e= .returned (.int .i64 s.ops)/\w=w':=by have c1:=h.c2;clear h;go_enter Tryz.func14,Tryz.ntmps14;go_wp2;go_ret;exact⟨rfl,rfl⟩
theorem j4 {w:World} {a g:Nat} {s:Ar} (h:aA w a g s) (x:Int) (hx:inR s.W x=true):
    Calls Tryz.prog 186 #[↑a,.int .i64 x] w λe w'=>e= .returned (.pointer (some ⟨g,x.toNat-1,none⟩))/\w=w':=by
  have c0:=h.c0;have H:=qh h;have hl:=h.le;have hr:=h.room;obtain⟨h1,h2⟩:=aO.1 hx;obtain⟨n,rfl⟩:∃n:Nat,x=((n+1:Nat):Int):=⟨x.toNat-1,by omega⟩;have e1:((n+1:Nat):Int).toNat-1=n:=by omega
  rw[e1];have t1:¬((n+1:Nat):Int)<1:=by omega
  have t2:¬(s.W.length:Int)<((n+1:Nat):Int):=by omega
  have t3:(n:Int)<s.room:=by omega
  clear h hx h1 h2 e1;go_enter Tryz.func186,Tryz.ntmps186;go_wp2_with (go_at_call 112;refine(qz H.o).mono ?_;rintro e w' ⟨rfl,rfl⟩);go_ret;exact⟨by simp,rfl⟩
theorem jQ {w:World} {a g:Nat} {s:Ar} (h:aA w a g s) (x:Int) (hx:inR s.W x=false):
    Calls Tryz.prog 186 #[↑a,.int .i64 x] w λe w'=>e= .returned (.pointer none)/\w=w':=by
  have H:=qh h;have hx':=iD.1 hx;clear h hx;by_cases h1:x<1;· go_enter Tryz.func186,Tryz.ntmps186;go_wp2_with (go_at_call 112;refine(qz H.o).mono ?_;rintro e w' ⟨rfl,rfl⟩);go_ret;exact⟨rfl,rfl⟩
  · have t2:(s.W.length:Int)<x:=(by omega);clear hx';go_enter Tryz.func186,Tryz.ntmps186;go_wp2_with (go_at_call 112;refine(qz H.o).mono ?_;rintro e w' ⟨rfl,rfl⟩);go_ret;exact⟨rfl,rfl⟩
theorem iN {w:World} {a g:Nat} {s:Ar} (h:aA w a g s) (k x:Int) (wr:Bool) (hx:inR s.W x=true) (ho:s.ops+1<=1000000000000):
    Calls Tryz.prog 187 #[↑a,.int .i64 k,.int .i64 x,.bool wr] w λe w'=>e= .returned (.tuple #[])/\aA w' a g (fj s k x wr)/\aa [a] w w':=by
  have c2:=h.c2;have c3:=h.c3;have c4:=h.c4;have c5:=h.c5;have f2:=h.blk.free 2;have f3:=h.blk.free 3;have f4:=h.blk.free 4;have f5:=h.blk.free 5;have hl:=h.blk.lt;have H:=qh h;have HX:=qh hx;clear h hx;go_enter Tryz.func187,Tryz.ntmps187;go_wp2;go_end0;refine⟨rfl,?_,?_⟩;· have hb:=(((H.o.blk.set_ 2 (.int .i64 (s.ops+1))).set_ 3 (.int .i64 k)).set_ 4 (.int .i64 x)).set_ 5 (.bool wr);have hw:=(((H.o.wds.far (p:=⟨a,2,none⟩) H.o.ne.symm (.int .i64 (s.ops+1))).far (p:=⟨a,3,none⟩) H.o.ne.symm (.int .i64 k)).far (p:=⟨a,4,none⟩) H.o.ne.symm (.int .i64 x)).far (p:=⟨a,5,none⟩) H.o.ne.symm (.bool wr);have e:fj s k x wr={s with ops:=s.ops+1,k:=k,at_:=x,wr:=wr}:=(by unfold fj;rw[if_pos HX.o]);rw[e];exact⟨hb,hw,H.o.ne,H.o.le,H.o.room,ho⟩
  · exact((((aa.refl _ _).setCell (.inl QY) _).setCell (.inl QY) _).setCell (.inl QY) _).setCell (.inl QY) _
end
section
open Go Go.RowKit
structure LkM (n:Nat) where
 σ:Type
 β:Type
 ok:σ->Nat->Prop
 ar:σ->Ar
 sp:σ->Nat->Sp
 cn:σ->Nat->Int
 rd:Bool
 step:σ->Nat->σ
 ask:σ->Nat->Bool->σ
 leave:σ->Nat->σ
 hi:β->Nat
 fp:β->List Nat
 is:β->World->Nat->Nat->Nat->σ->Prop
abbrev MS (n:Nat):Type 1:=(M:LkM n)×M.σ
def rdB (rd:Bool)(p:Sp):Bool:=rd&&decide (p.a=1)
def LkM.Act{n:Nat}(M:LkM n)(b:M.β)(w:World)(a g lb:Nat)(st':M.σ)(r:Bool)(e:Ending)(w':World):Prop:=
 e= .returned (.bool r)/\M.is b w' a g lb st'/\aa (M.fp b) w w'
def lkB:Nat:=1000000
def dA (p p':Sp):Bool:=decide ((p'.pc=10\/p'.pc=0)/\p.pc≠0/\p.pc≠10)
structure LkM.Good{n:Nat}(M:LkM n):Prop where
 n32:1<=n/\n<=32
 okS:∀st N i,M.ok st N->N<lkB->i<n->M.ok (M.step st i) (N+1)
 okA:∀st N i r,M.ok st N->N<lkB->i<n->M.ok (M.ask st i r) (N+1)
 okL:∀st N i,M.ok st N->N<lkB->i<n->M.ok (M.leave st i) (N+1)
 okm:∀st N,M.ok st N->M.ok st (N+1)
 one:∀st N i j,M.ok st N->i<n->j<n->(M.sp st i).pc=10->(M.sp st j).pc=10->rdB M.rd (M.sp st i)=false->i=j
 pcs:∀st N i,M.ok st N->i<n->0<=(M.sp st i).pc
 cnt:∀st N i,M.ok st N->i<n->((M.sp st i).pc=10↔0<M.cn st i)
 opsS:∀st N i,M.ok st N->N<lkB->i<n->(M.ar (M.step st i)).ops<=(M.ar st).ops+1
 arA:∀st i r,M.ar (M.ask st i r)=M.ar st
 arL:∀st i,M.ar (M.leave st i)=M.ar st
 ais:∀b w a g lb st,M.is b w a g lb st->aA w a g (M.ar st)
 lk:∀b w a g lb st,M.is b w a g lb st->w.cell? ⟨lb,1,none⟩=some (.int .i64 n)
 kd:∀b w a g lb st,M.is b w a g lb st->∃k:Int,w.cell? ⟨lb,0,none⟩=some (.int .i64 k)/\M.rd=decide (11<=k/\k<=13)
 fpa:∀b w a g lb st,M.is b w a g lb st->(∀x∈M.fp b,x<M.hi b)/\M.hi b<=w.heap.size
 far:∀b w a g lb st w' S,M.is b w a g lb st->aa S w w'->(∀x∈S,M.hi b<=x)->M.is b w' a g lb st
 cS:∀b w a g lb st N i,M.is b w a g lb st->M.ok st N->N<lkB->i<n->
  Calls Tryz.prog 51 #[lkP lb,.int .i64 i] w (M.Act b w a g lb (M.step st i) (dA (M.sp st i) (M.sp (M.step st i) i)))
 cA:∀b w a g lb st N i r,M.is b w a g lb st->M.ok st N->N<lkB->i<n->
  Calls Tryz.prog 50 #[lkP lb,.int .i64 i,.bool r] w (M.Act b w a g lb (M.ask st i r) (decide ((M.sp st i).pc=0/\(r=true->M.rd=true))))
 cL:∀b w a g lb st N i,M.is b w a g lb st->M.ok st N->N<lkB->i<n->
  Calls Tryz.prog 52 #[lkP lb,.int .i64 i] w (M.Act b w a g lb (M.leave st i) (decide ((M.sp st i).pc=10)))
 cP:∀b w a g lb st i,M.is b w a g lb st->i<n->
  Calls Tryz.prog 57 #[lkP lb,.int .i64 i] w λe w'=>e= .returned (aE (M.sp st i))/\Below w.heap.size w w'
 cC:∀b w a g lb st i,M.is b w a g lb st->i<n->
  Calls Tryz.prog 18 #[lkP lb,.int .i64 i] w λe w'=>e= .returned (.int .i64 (M.cn st i))/\Below w.heap.size w w'
end
section
open Go Go.RowKit
section
variable{n:Nat}{M:LkM n}{w w':World}{a g lb:Nat}{b:M.β}{st st':M.σ}{N:Nat}
theorem Ib (hc:w.cell? ⟨lb,1,none⟩=some (.int .i64 n)) (i:Int) (hi:¬(0<=i/\i<n)):
    Calls Tryz.prog 51 #[lkP lb,.int .i64 i] w (λe w'=>e= .returned (.bool false)/\w=w')/\
    (∀r,Calls Tryz.prog 50 #[lkP lb,.int .i64 i,.bool r] w (λe w'=>e= .returned (.bool false)/\w=w'))/\
    Calls Tryz.prog 52 #[lkP lb,.int .i64 i] w (λe w'=>e= .returned (.bool false)/\w=w'):=by
  have H:=qh (rZ hc i false (decide_eq_false hi));clear hc hi;obtain⟨v,hv⟩:∃v,v=lkP lb:=⟨_,rfl⟩;rw[<-hv]at H ⊢;clear hv;refine⟨?_,λr=>?_,?_⟩;· go_enter Tryz.func51,Tryz.ntmps51;go_wp2_with fail;refine H.o.mono ?_;rintro en w' ⟨rfl,rfl⟩;go_wp2;go_ret;exact⟨rfl,rfl⟩
  · go_enter Tryz.func50,Tryz.ntmps50;go_wp2_with fail;refine H.o.mono ?_;rintro en w' ⟨rfl,rfl⟩;go_wp2;go_ret;exact⟨rfl,rfl⟩
  · go_enter Tryz.func52,Tryz.ntmps52;go_wp2_with fail;refine H.o.mono ?_;rintro en w' ⟨rfl,rfl⟩;go_wp2;go_ret;exact⟨rfl,rfl⟩
def j5 (pc:Int):Int:=if pc=0 then 0 else if pc<10 then 1 else if pc=10 then 2 else 3
theorem qW (G:M.Good) (h:M.is b w a g lb st) (i:Nat) (hi:i<n):
    Calls Tryz.prog 16 #[lkP lb,.int .i64 i] w λe w'=>e= .returned (.int .i64 (j5 (M.sp st i).pc))/\Below w.heap.size w w':=by
  have hfield:=aK;have HS:=qh (G.cP b w a g lb st i h hi);obtain⟨p,hp⟩:∃p,p=M.sp st i:=⟨_,rfl⟩;rw[<-hp]at HS ⊢;clear h hp G;obtain⟨pc,u,v,z⟩:=p;unfold aE at HS;obtain⟨q,hq⟩:∃q,q=lkP lb:=⟨_,rfl⟩;rw[<-hq]at HS ⊢;have HX:Kq (j5 pc=if (pc==0)=true then 0 else if decide (pc<10)=true then 1 else if (pc==10)=true then 2 else 3):=qh (by unfold j5;simp);clear hq;simp only;cases t0:(pc==0)
  · cases t1:decide (pc<10)
    · cases t2:(pc==10);· rw[show j5 pc=3 from by rw[HX.o,t0,t1,t2];rfl];go_enter Tryz.func16,Tryz.ntmps16;go_wp2_with fail;refine HS.o.mono ?_;rintro en w1 ⟨rfl,b1⟩;have B1:=qh b1;clear b1;go_wp2;go_ret;exact⟨rfl,B1.o⟩
      · rw[show j5 pc=2 from by rw[HX.o,t0,t1,t2];rfl];go_enter Tryz.func16,Tryz.ntmps16;go_wp2_with fail;refine HS.o.mono ?_;rintro en w1 ⟨rfl,b1⟩;have B1:=qh b1;clear b1;go_wp2;go_ret;exact⟨rfl,B1.o⟩
    · rw[show j5 pc=1 from by rw[HX.o,t0,t1];rfl];go_enter Tryz.func16,Tryz.ntmps16;go_wp2_with fail;refine HS.o.mono ?_;rintro en w1 ⟨rfl,b1⟩;have B1:=qh b1;clear b1;go_wp2;go_ret;exact⟨rfl,B1.o⟩
  · rw[show j5 pc=0 from by rw[HX.o,t0];rfl];go_enter Tryz.func16,Tryz.ntmps16;go_wp2_with fail;refine HS.o.mono ?_;rintro en w1 ⟨rfl,b1⟩;have B1:=qh b1;clear b1;go_wp2;go_ret;exact⟨rfl,B1.o⟩
theorem qT (k:Int)(w:World)(r:Bool)(hr:r=decide (11<=k/\k<=13)):Calls Tryz.prog 55 #[.int .i64 k] w λe w'=>e= .returned (.bool r)/\w=w':=by
 have HR:=qh hr;clear hr;by_cases h1:11<=k;·go_enter Tryz.func55,Tryz.ntmps55;go_wp2;go_ret;exact⟨az (by rw[HR.o];by_cases e:k<=13<;>simp[e];omega),rfl⟩
 ·have t1:decide (k >= 11)=false:=decide_eq_false QX;go_enter Tryz.func55,Tryz.ntmps55;go_wp2;go_ret;exact⟨az (by rw[HR.o];symm;exact decide_eq_false QX),rfl⟩
def yc (rd:Bool)(p:Sp):Bool:=!decide (p.pc=0)&&rdB rd p
theorem zR (a b c d:Int)(w:World):(Instr.field 113 (.agg #[.int .i64 a,.int .i64 b,.int .i64 c,.int .i64 d]) 1).run Tryz.prog w= .ok (.int .i64 b) w:=by kernel_rfl
theorem Bg (G:M.Good) (h:M.is b w a g lb st) (i:Nat) (hi:i<n):
    Calls Tryz.prog 17 #[lkP lb,.int .i64 i] w λe w'=>e= .returned (.bool (yc M.rd (M.sp st i)))/\Below w.heap.size w w':=by
  have hfield:=zR;obtain⟨k,hk,hrd⟩:=G.kd b w a g lb st h;have hll:=aQ hk;have HS:=qh (λW (h:M.is b W a g lb st)=>qW G h i hi);have HP:=qh (λW (h:M.is b W a g lb st)=>G.cP b W a g lb st i h hi);have HB:=qh (λW (t:Below w.heap.size w W)=>G.far b w a g lb st W [] h (aa.of_below t) QY);have H:=qh h;have HC:Kq (∀W,Below w.heap.size w W->W.cell? lb=some (.int .i64 k)):=qh λW t=>by rw[(aa.of_below (S:=[]) t).cellC hll QY];exact hk
  have HH:=qh (λW=>qT k W M.rd hrd);obtain⟨p,hp⟩:∃p,p=M.sp st i:=⟨_,rfl⟩;rw[<-hp]at HS HP ⊢;obtain⟨rd,hrd2⟩:∃rd,rd=M.rd:=⟨_,rfl⟩;rw[<-hrd2]at HH ⊢;clear h hp hk hrd hrd2 hll G;obtain⟨pc,u,v,z⟩:=p;unfold aE at HP;unfold yc rdB;unfold lkP at *;simp only at HS ⊢;by_cases h0:pc=0;· subst h0;go_enter Tryz.func17,Tryz.ntmps17;go_wp2_with fail;refine(HS.o _ H.o).mono ?_;rintro en w1 ⟨rfl,b1⟩;have B1:=qh b1;clear b1;rw[show j5 0=0 from rfl];go_wp2;go_ret;exact⟨rfl,B1.o⟩
  · have e0:j5 pc≠0:=(by unfold j5;rw[if_neg h0];split;decide;split<;>decide);obtain⟨s,hs⟩:∃s,s=j5 pc:=⟨_,rfl⟩;rw[<-hs]at HS e0;have t0:(s !=0)=true:=(by simpa using e0);have HZ:=qh (show decide (pc=0)=false from decide_eq_false h0);clear hs e0 h0;cases rd;· go_enter Tryz.func17,Tryz.ntmps17;go_wp2_with fail;refine(HS.o _ H.o).mono ?_;rintro en w1 ⟨rfl,b1⟩;have c0:=HC.o _ b1;have B1:=qh b1;clear b1;go_wp2_with fail;refine(HH.o _).mono ?_;rintro en w2 ⟨rfl,rfl⟩;go_wp2;go_ret;exact⟨az QY,B1.o⟩
    · go_enter Tryz.func17,Tryz.ntmps17;go_wp2_with fail;refine(HS.o _ H.o).mono ?_;rintro en w1 ⟨rfl,b1⟩;have c0:=HC.o _ b1;have B1:=qh b1;clear b1;go_wp2_with fail;refine(HH.o _).mono ?_;rintro en w2 ⟨rfl,rfl⟩;go_wp2_with fail;refine(HP.o _ (HB.o _ B1.o)).mono ?_;rintro en w3 ⟨rfl,b3⟩;have B3:=qh (B1.o.trans (b3.mono B1.o.size));clear b3 c0;go_wp2;go_ret;exact⟨az (by rw[HZ.o];by_cases e:u=1<;>simp[e]),B3.o⟩
end
end
section
open Go Go.RowKit
def cnB (f:Nat->Bool):Nat->Nat
 |0=>0
 |k+1=>cnB f k+if f k then 1 else 0
theorem qd{f:Nat->Bool}:∀{k:Nat},0<cnB f k->∃i,i<k/\f i=true
 |0,h=>absurd h (by simp[cnB])
 |k+1,h=>by
  by_cases e:f k=true;·exact⟨k,by omega,e⟩
  ·simp only[cnB,e]at h;obtain⟨i,h1,h2⟩:=qd (k:=k) (by simpa using h);exact⟨i,by omega,h2⟩
theorem vr{f:Nat->Bool}:∀{k:Nat},(∀i j,i<k->j<k->f i=true->f j=true->i=j)->cnB f k<=1
 |0,_=>by simp[cnB]
 |k+1,h=>by
  have h1:=vr (f:=f) (k:=k) (λi j a b=>h i j QX QX);simp only[cnB];split
  ·rename_i e;by_cases c:0<cnB f k;·obtain⟨i,a,b⟩:=qd c;have:=h i k QX QX b e;omega
   ·omega
  ·omega
theorem tM (f:Nat->Bool):∀k,cnB f k<=k
 |0=>by simp[cnB]
 |k+1=>by have:=tM f k;simp only[cnB];split<;>omega
section
variable{n:Nat}{M:LkM n}{w w':World}{a g lb:Nat}{b:M.β}{st st':M.σ}{N:Nat}
def LkM.inW (M:LkM n)(st:M.σ)(i:Nat):Bool:=decide ((M.sp st i).pc=10)&&!rdB M.rd (M.sp st i)
def LkM.inD (M:LkM n)(st:M.σ)(i:Nat):Bool:=decide ((M.sp st i).pc=10)&&rdB M.rd (M.sp st i)
theorem LkM.Good.safe (G:M.Good)(h:M.ok st N):cnB (M.inW st) n<=1/\(0<cnB (M.inW st) n->cnB (M.inD st) n=0):=by
 have h1:∀i j,i<n->j<n->M.inW st i=true->(M.sp st j).pc=10->i=j:=λi j hi hj hw hj10=>by unfold LkM.inW at hw;simp only[Bool.and_eq_true,decide_eq_true_eq,Bool.not_eq_true']at hw;exact G.one st N i j h hi hj hw.1 hj10 hw.2
 have h2:∀i,M.inW st i=true->(M.sp st i).pc=10:=λi hw=>by unfold LkM.inW at hw;simp only[Bool.and_eq_true,decide_eq_true_eq]at hw;exact hw.1
 refine⟨vr λi j hi hj a c=>h1 i j hi hj a (h2 j c),λhp=>?_⟩;obtain⟨i,hi,hw⟩:=qd hp;apply Classical.byContradiction;intro hc;obtain⟨j,hj,hd⟩:=qd (f:=M.inD st) (k:=n) QX;unfold LkM.inD at hd;simp only[Bool.and_eq_true,decide_eq_true_eq]at hd;have e:=h1 i j hi hj hw hd.1;subst e;unfold LkM.inW at hw;simp[hd.2]at hw
def LkM.Ac (M:LkM n)(b:M.β)(w:World)(a g lb:Nat)(st:M.σ)(N:Nat)(q:Prop)(e:Ending)(w':World):Prop:=
 ∃r st',e= .returned (.bool r)/\M.is b w' a g lb st'/\M.ok st' (N+1)/\((M.ar st').ops<=(M.ar st).ops+1/\(q->(M.ar st').ops=(M.ar st).ops))/\aa (M.fp b) w w'
theorem acsL (G:M.Good) (h:M.is b w a g lb st) (hk:M.ok st N) (hN:N<lkB) (i:Int):
    Calls Tryz.prog 51 #[lkP lb,.int .i64 i] w (M.Ac b w a g lb st N False)/\
    (∀r,Calls Tryz.prog 50 #[lkP lb,.int .i64 i,.bool r] w (M.Ac b w a g lb st N True))/\
    Calls Tryz.prog 52 #[lkP lb,.int .i64 i] w (M.Ac b w a g lb st N True):=by
  by_cases hi:0<=i/\i<n
  · obtain⟨j,rfl⟩:=Int.eq_ofNat_of_zero_le hi.1;have hj:j<n:=(by omega);refine⟨(G.cS b w a g lb st N j h hk hN hj).mono ?_,λr=>(G.cA b w a g lb st N j r h hk hN hj).mono ?_,(G.cL b w a g lb st N j h hk hN hj).mono ?_⟩;· rintro e w' ⟨rfl,k1,t1⟩;exact⟨_,_,rfl,k1,G.okS _ _ _ hk hN hj,⟨G.opsS _ _ _ hk hN hj,λq=>q.elim⟩,t1⟩
    · rintro e w' ⟨rfl,k1,t1⟩;exact⟨_,_,rfl,k1,G.okA _ _ _ _ hk hN hj,by rw[G.arA];exact⟨by omega,λ_=>rfl⟩,t1⟩
    · rintro e w' ⟨rfl,k1,t1⟩;exact⟨_,_,rfl,k1,G.okL _ _ _ hk hN hj,by rw[G.arL];exact⟨by omega,λ_=>rfl⟩,t1⟩
  · obtain⟨h1,h2,h3⟩:=Ib (G.lk b w a g lb st h) i hi;refine⟨h1.mono ?_,λr=>(h2 r).mono ?_,h3.mono ?_⟩;all_goals rintro e w' ⟨rfl,rfl⟩;exact⟨_,st,rfl,h,G.okm _ _ hk,⟨by omega,λ_=>rfl⟩,aa.refl _ _⟩
theorem doL (G:M.Good) (h:M.is b w a g lb st) (hk:M.ok st N) (hN:N<lkB) (kd i:Int):
    Calls Tryz.prog 15 #[lkP lb,.agg #[.int .i64 kd,.int .i64 i]] w (M.Ac b w a g lb st N (kd≠0)):=by
  have hd:Below w.heap.size w (w.alloc (.cells #[.int .i64 kd,.int .i64 i] 42)):=(Below.refl _ _).alloc (Nat.le_refl _) _;have h1:=G.far b w a g lb st _ [] h (aa.of_below hd) QY;have HA:=qh (And.intro (acsL G h1 hk hN i) hd);have HS:Kq (∀(q:Prop),M.Ac b w a g lb st N q (.returned (.bool false)) (w.alloc (.cells #[.int .i64 kd,.int .i64 i] 42))):=qh λq=>⟨_,st,rfl,h1,G.okm _ _ hk,⟨by omega,λ_=>rfl⟩,aa.of_below hd⟩;clear h h1 hk hd G;by_cases k0:kd=0;· subst k0;unfold lkP at *;go_enter Tryz.func15,Tryz.ntmps15;go_wp2_with fail;refine HA.o.1.1.mono ?_;rintro en w1 ⟨r,s1,rfl,h1,h2,h3,h4⟩;have H1:=qh (And.intro h1 (And.intro h2 (And.intro h3 h4)));clear h1 h2 h3 h4;go_wp2;go_ret;exact⟨_,_,rfl,H1.o.1,H1.o.2.1,⟨H1.o.2.2.1.1,λq=>absurd rfl q⟩,(aa.of_below HA.o.2).trans H1.o.2.2.2⟩
  have u0:(kd==0)=false:=by simpa using k0
  have K0:=qh k0;by_cases k1:kd=1;· subst k1;clear k0 u0;unfold lkP at *;go_enter Tryz.func15,Tryz.ntmps15;go_wp2_with fail;refine(HA.o.1.2.1 false).mono ?_;rintro en w1 ⟨r,s1,rfl,h1,h2,h3,h4⟩;have H1:=qh (And.intro h1 (And.intro h2 (And.intro h3 h4)));clear h1 h2 h3 h4;go_wp2;go_ret;exact⟨_,_,rfl,H1.o.1,H1.o.2.1,⟨H1.o.2.2.1.1,λ_=>H1.o.2.2.1.2 trivial⟩,(aa.of_below HA.o.2).trans H1.o.2.2.2⟩
  have u1:(kd==1)=false:=by simpa using k1
  by_cases k2:kd=2;· subst k2;clear k0 k1 u0 u1;unfold lkP at *;go_enter Tryz.func15,Tryz.ntmps15;go_wp2_with fail;refine HA.o.1.2.2.mono ?_;rintro en w1 ⟨r,s1,rfl,h1,h2,h3,h4⟩;have H1:=qh (And.intro h1 (And.intro h2 (And.intro h3 h4)));clear h1 h2 h3 h4;go_wp2;go_ret;exact⟨_,_,rfl,H1.o.1,H1.o.2.1,⟨H1.o.2.2.1.1,λ_=>H1.o.2.2.1.2 trivial⟩,(aa.of_below HA.o.2).trans H1.o.2.2.2⟩
  have u2:(kd==2)=false:=by simpa using k2
  by_cases k3:kd=3;· subst k3;clear k0 k1 k2 u0 u1 u2;unfold lkP at *;go_enter Tryz.func15,Tryz.ntmps15;go_wp2_with fail;refine(HA.o.1.2.1 true).mono ?_;rintro en w1 ⟨r,s1,rfl,h1,h2,h3,h4⟩;have H1:=qh (And.intro h1 (And.intro h2 (And.intro h3 h4)));clear h1 h2 h3 h4;go_wp2;go_ret;exact⟨_,_,rfl,H1.o.1,H1.o.2.1,⟨H1.o.2.2.1.1,λ_=>H1.o.2.2.1.2 trivial⟩,(aa.of_below HA.o.2).trans H1.o.2.2.2⟩
  have u3:(kd==3)=false:=by simpa using k3
  clear k0 k1 k2 k3;unfold lkP at *;go_enter Tryz.func15,Tryz.ntmps15;go_wp2;go_ret;exact HS.o _
end
end
section
open Go.RowKit
def okP (P:List Int)(v:Nat):Bool:=decide ((v=0->P.getD v 0= -1)/\(0<v->0<=P.getD v 0/\P.getD v 0<v))
def dN (P:List Int):Bool:=(List.range P.length).all (okP P)
def da (P:List Int)(v:Int):Bool:=decide (0<=v/\v<P.length/\v∉P)
def ai (P:List Int)(k:Nat):List Int:=((List.range k).map Int.ofNat).filter (da P)
def ab (P:List Int):List Int:=ai P P.length
def dep (P:List Int):Nat->Int->Nat
 |0,_=>0
 |f+1,v=>if 0<=v/\v<P.length then dep P f (P.getD v.toNat 0)+1 else 0
def depL (P:List Int)(v:Int):Nat:=dep P P.length v
def ke (P:List Int):Bool:=(ab P).all λv=>decide (depL P v=depL P ((ab P).headD 0)/\depL P v<=5)
def thrB (P T:List Int):Bool:=T.all (da P)
def ju (P T:List Int):Bool:=decide (P.length<1\/32<P.length\/T.length<1\/32<T.length)
def a5 (P T:List Int):Int:=if ju P T then 8 else if dN P=false then 9 else if ke P=false then 9 else if thrB P T=false then 4 else 0
theorem ba{P:List Int}{k:Nat}{p:Int}(h:P[k]? =some p):P.getD k 0=p:=by rw[List.getD_eq_getElem?_getD,h];rfl
theorem jz (f:Nat->Bool)(k:Nat):(List.range (k+1)).all f=((List.range k).all f&&f k):=by rw[List.range_succ,List.all_append];simp
theorem wD{P:List Int}(h:dN P=true){k:Nat}{p:Int}(hk:P[k]? =some p):(k=0->p= -1)/\(0<k->0<=p/\p<k):=by have hlt:=(List.getElem?_eq_some_iff.1 hk).1;unfold dN at h;rw[List.all_eq_true]at h;have:=h k (List.mem_range.2 hlt);simp only[okP,decide_eq_true_eq,ba hk]at this;exact this
theorem gx{P:List Int}(h:dN P=true){k:Nat}{p:Int}(hk:P[k]? =some p):-1<=p/\p<k:=by
 have:=wD h hk;rcases Nat.eq_zero_or_pos k with h0|h0
 ·have:=this.1 h0;omega
 ·have:=this.2 h0;omega
theorem nC{P:List Int}(h:dN P=true):∀(f:Nat) (v:Int),v<f->∀g:Nat,v<g->dep P f v=dep P g v
 |0,v,hv,g,hg=>by
  cases g with
  |zero=>rfl
  |succ g=>unfold dep;rw[if_neg QX]
 |f+1,v,hv,g,hg=>by
  cases g with
  |zero=>unfold dep;rw[if_neg QX]
  |succ g=>
   unfold dep;split;·rename_i hb;obtain⟨p,hp⟩:=aj (show v.toNat<P.length by omega);have:=gx h hp;rw[ba hp,nC h f p QX g QX]
   ·rfl
theorem Ir{P:List Int}(h:dN P=true){k:Nat}{p:Int}(hk:P[k]? =some p):depL P k=if 0<=p then depL P p+1 else 1:=by
 have hlt:=(List.getElem?_eq_some_iff.1 hk).1;have hp:=gx h hk;unfold depL;rw[nC h P.length k QX (k+1) QX];show(if 0<=(k:Int)/\(k:Int)<P.length then dep P k (P.getD (k:Int).toNat 0)+1 else 0)=_;rw[if_pos QX,Int.toNat_natCast,ba hk];split;·rw[nC h k p QX P.length QX]
 ·have:dep P k p=0:=by
   cases k with
   |zero=>rfl
   |succ k=>unfold dep;rw[if_neg QX]
  omega
theorem zy (P:List Int):∀(f:Nat) (v:Int),dep P f v<=f
 |0,_=>Nat.le_refl _
 |f+1,v=>by
  unfold dep;split;·have:=zy P f (P.getD v.toNat 0);omega
  ·omega
theorem Ck (P:List Int)(v:Int):depL P v<=P.length:=zy P _ _
theorem cj (P:List Int)(k:Nat):ai P (k+1)=if da P k then ai P k++[(k:Int)]else ai P k:=by
 unfold ai;rw[List.range_succ,List.map_append,List.filter_append];show _++List.filter (da P) [(k:Int)]=_;by_cases h:da P k=true;·simp[h]
 ·simp[h]
theorem aZ (P:List Int):∀k,(ai P k).length<=k:=λk=>by
 unfold ai
 have:=List.length_filter_le (da P) ((List.range k).map Int.ofNat)
 simpa using this
theorem fz{P:List Int}{v:Int}:v∈ab P↔da P v=true:=by
 unfold ab ai;rw[List.mem_filter];constructor;·exact λh=>h.2
 ·intro h;refine⟨?_,h⟩;simp only[da,decide_eq_true_eq]at h;rw[List.mem_map];exact⟨v.toNat,List.mem_range.2 QX,by show((v.toNat:Nat):Int)=v;omega⟩
theorem iH{P:List Int}{k:Nat}{p:Int}(hk:P[k]? =some p)(x:Int):x∈P.take (k+1)↔x∈P.take k\/x=p:=by rw[dg hk];simp
theorem pO{α:Type}(n i:Nat)(f g:Nat->α)(u:α)(hi:g i=u)(ho:∀j,j≠i->g j=f j):((List.range n).map f).set i u=(List.range n).map g:=by
 refine List.ext_getElem? λj=>?_;rw[List.getElem?_set];by_cases hji:i=j
 ·subst hji;rw[if_pos rfl];by_cases hin:i<n;·simp[hin,hi]
  ·simp[hin]
 ·rw[if_neg hji];by_cases hjn:j<n;·simp[hjn,ho j (λh=>hji h.symm)]
  ·simp[hjn]
theorem iQ{α:Type}(n i:Nat)(f:Nat->α)(h:i<n):((List.range n).map f)[i]? =some (f i):=by simp[h]
end
section
open Go.RowKit
def fy (l:List Int)(x:Int):Int:=if x∈l then((l.idxOf x:Nat):Int)else -1
theorem CL{l:List Int}{k:Nat}{x:Int}(h:l[k]? =some x)(hn:x∉l.take k):fy l x=k:=by
 unfold fy;have hm:x∈l:=List.mem_of_getElem? h;obtain⟨hk,he⟩:=List.getElem?_eq_some_iff.1 h;rw[if_pos hm];have hl:l=l.take k++(x :: l.drop (k+1)):=by conv=>lhs;rw[<-List.take_append_drop k l,List.drop_eq_getElem_cons hk,he]
 have:l.idxOf x=k:=by rw[hl,List.idxOf_append];rw[if_neg hn,List.idxOf_cons_self];simp;omega
 rw[this]
theorem Ah{l:List Int}{x:Int}(hn:x∉l):fy l x= -1:=by unfold fy;rw[if_neg hn]
theorem eI (l:List Int)(x:Int):(0<=fy l x↔x∈l)/\fy l x<l.length/\-1<=fy l x:=by
 unfold fy;split;·rename_i h;have:=List.idxOf_lt_length_of_mem h;exact⟨by simp[h],by omega,by omega⟩
 ·rename_i h;exact⟨by simp[h],by omega,by omega⟩
def nG (p:Int->Bool)(l:List Int):Int:=match l.findIdx? p with|some i=>(i:Int)|none=>-1
theorem zQ{p:Int->Bool}{l:List Int}{k:Nat}{x:Int}(h:l[k]? =some x)(hp:p x=true)(hn:∀y∈l.take k,p y=false):nG p l=k:=by
 obtain⟨hk,he⟩:=List.getElem?_eq_some_iff.1 h;have:l.findIdx? p=some k:=by rw[List.findIdx?_eq_some_iff_getElem];refine⟨hk,by rw[he];exact hp,λj hj=>?_⟩;have:=hn l[j] (List.mem_take_iff_getElem.2 ⟨j,by omega,rfl⟩);simp[this]
 unfold nG;rw[this]
theorem xv{p:Int->Bool}{l:List Int}(hn:∀y∈l,p y=false):nG p l= -1:=by
 have:l.findIdx? p=none:=by rw[List.findIdx?_eq_none_iff];exact hn
 unfold nG;rw[this]
theorem rV (p:Int->Bool)(l:List Int):(decide (0<=nG p l)=l.any p)/\nG p l<l.length/\-1<=nG p l:=by
 unfold nG;cases h:l.findIdx? p with
 |none=>rw[List.findIdx?_eq_none_iff]at h;refine⟨?_,by show(-1:Int)<_;omega,by show(-1:Int)<=-1;omega⟩;symm;show _=decide ((0:Int)<=-1);rw[show decide ((0:Int)<=-1)=false from rfl,List.any_eq_false];intro x hx hp;rw[h x hx]at hp;cases hp
 |some i=>rw[List.findIdx?_eq_some_iff_getElem]at h;obtain⟨hi,hp,_⟩:=h;refine⟨?_,by show(i:Int)<_;omega,by show(-1:Int)<=(i:Int);omega⟩;rw[decide_eq_true (show(0:Int)<=(i:Int)by omega)];symm;rw[List.any_eq_true];exact⟨l[i],List.getElem_mem hi,hp⟩
theorem lE (w:World) (v:Value) (l:List Int) (x:Int) (h:RdL w v 1 encI l):
    Calls Tryz.prog 119 #[v,.int .i64 x] w λe w'=>e= .returned (.int .i64 (fy l x))/\w=w':=by
  obtain⟨A,cap,rfl,l1,l2,hr⟩:=h;have HR:=qh hr;clear hr;go_enter Tryz.func119,Tryz.ntmps119;go_wp2;go_loop [8] (λi=>∃k:Nat,i= .int .i64 k/\k<=l.length/\x∉l.take k) (λi=>l.length-(intOf i).toNat);case atStart=>exact⟨0,rfl,by omega,by simp⟩
  case round=>
    obtain⟨k,rfl,hk,hn⟩:=hrel;by_cases hlt:k<l.length
    · obtain⟨bl,off,rfl,hbl,hc⟩:=HR.o QX;obtain⟨y,hy⟩:=aj hlt;have c0:=hc k y hy 0 _ rfl;simp only[Nat.add_zero,Nat.mul_one]at c0;have HY:=qh (And.intro hy hn);clear hc hy hn;cases hxy:(x==y)
      · have hne:Kq (x∉l.take (k+1)):=qh (by
          rw[iH HY.o.1];rintro(h|h);· exact HY.o.2 h
          · rw[h]at hxy;simp at hxy)
        go_wp2;go_round;case rel=>exact⟨k+1,by go_num,by omega,hne.o⟩
        case measure=>simp[intOf];omega
      · have hid:Kq (fy l x=k):=qh (CL (by rw[beq_iff_eq.1 hxy];exact HY.o.1) HY.o.2);go_wp2;go_ret;exact⟨aT hid.o.symm,rfl⟩
    · obtain rfl:k=l.length:=by omega
      rw[List.take_length]at hn;have hid:Kq (fy l x= -1):=qh (Ah hn);clear hn;go_wp2;go_ret;exact⟨aT hid.o.symm,rfl⟩
theorem qe (w:World) (v:Value) (l:List Int) (x:Int) (h:RdL w v 1 encI l):
    Calls Tryz.prog 87 #[v,.int .i64 x] w λe w'=>e= .returned (.bool (decide (x∈l)))/\w=w':=by have HI:=qh (lE w v l x h);have hb:decide (x∈l)=decide (0<=fy l x):=decide_eq_decide.2 (eI l x).1.symm;have HB:=qh hb;clear h hb;go_enter Tryz.func87,Tryz.ntmps87;go_wp2_with (go_at_call 119;refine HI.o.mono ?_;rintro e w' ⟨rfl,rfl⟩);go_ret;exact⟨az HB.o.symm,rfl⟩
theorem zh (w:World) (b:Nat) (v:Value) (l:List Int) (x:Int) (hc:w.cell? b=some v) (h:RdL w v 1 encI l):
    Calls Tryz.prog 86 #[.int .i64 x,↑b] w λe w'=>e= .returned (.bool (!decide (x∈l)))/\w=w':=by have HI:=qh (qe w v l x h);clear h;go_enter Tryz.func86,Tryz.ntmps86;go_wp2_with (go_at_call 87;refine HI.o.mono ?_;rintro e w' ⟨rfl,rfl⟩);go_ret;exact⟨az QY,rfl⟩
theorem zi (w:World) (b:Nat) (ve v:Value) (en l:List Int) (hcell:w.cell? b=some ve) (hen:RdL w ve 1 encI en) (h:RdL w v 1 encI l):
    Calls Tryz.prog 118 #[v,.func (.func 86) #[] #[↑b]] w λe w'=>e= .returned (.int .i64 (nG (λx=>!decide (x∈en)) l))/\w=w':=by
  obtain⟨A,cap,rfl,l1,l2,hr⟩:=h;have HR:=qh hr;have HE:=qh (And.intro hcell hen);clear hr hcell hen;go_enter Tryz.func118,Tryz.ntmps118;go_wp2;go_loop [8] (λi=>∃k:Nat,i= .int .i64 k/\k<=l.length/\∀x∈l.take k,(!decide (x∈en))=false) (λi=>l.length-(intOf i).toNat);case atStart=>exact⟨0,rfl,by omega,by simp⟩
  case round=>
    obtain⟨k,rfl,hk,hn⟩:=hrel;by_cases hlt:k<l.length
    · obtain⟨bl,off,rfl,hbl,hc⟩:=HR.o QX;obtain⟨y,hy⟩:=aj hlt;have c0:=hc k y hy 0 _ rfl;simp only[Nat.add_zero,Nat.mul_one]at c0;have HY:=qh (And.intro hy hn);clear hc hy hn;have HC:=qh (zh w b ve en y HE.o.1 HE.o.2);cases hp:(!decide (y∈en))
      · have hne:Kq (∀x∈l.take (k+1),(!decide (x∈en))=false):=qh (by
          intro x hx;rcases(iH HY.o.1 x).1 hx with h|h
          · exact HY.o.2 x h
          · rw[h];exact hp)
        rw[hp]at HC;clear hp;go_wp2_with (go_at_call 86;refine HC.o.mono ?_;rintro e w' ⟨rfl,rfl⟩);go_round;case rel=>exact⟨k+1,by go_num,by omega,hne.o⟩
        case measure=>simp[intOf];omega
      · have hid:Kq (nG (λx=>!decide (x∈en)) l=k):=qh (zQ HY.o.1 hp HY.o.2);rw[hp]at HC;clear hp;go_wp2_with (go_at_call 86;refine HC.o.mono ?_;rintro e w' ⟨rfl,rfl⟩);go_ret;exact⟨aT hid.o.symm,rfl⟩
    · obtain rfl:k=l.length:=by omega
      rw[List.take_length]at hn;have hid:Kq (nG (λx=>!decide (x∈en)) l= -1):=qh (xv hn);clear hn;go_wp2;go_ret;exact⟨aT hid.o.symm,rfl⟩
theorem lz (w:World) (b:Nat) (ve v:Value) (en l:List Int) (hcell:w.cell? b=some ve) (hen:RdL w ve 1 encI en) (h:RdL w v 1 encI l):
    Calls Tryz.prog 85 #[v,.func (.func 86) #[] #[↑b]] w λe w'=>e= .returned (.bool (l.any λx=>!decide (x∈en)))/\w=w':=by have HI:=qh (zi w b ve v en l hcell hen h);have HB:=qh (rV (λx=>!decide (x∈en)) l).1;clear h hcell hen;go_enter Tryz.func85,Tryz.ntmps85;go_wp2_with (go_at_call 118;refine HI.o.mono ?_;rintro e w' ⟨rfl,rfl⟩);go_ret;exact⟨az HB.o,rfl⟩
end
end Go.Proofs.YtglokdbiggbkjaaGreat
