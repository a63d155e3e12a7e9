/- Joined texts. -/
import Derived.Test.YtglokdbiggbkjaaGreatRows
import Derived.WalkKit
import Derived.ProofKit
import Derived.ChangeOld
import Derived.WalkSpells
import Derived.WalkLawsBesides
import Derived.Below
import Derived.Outline
import Derived.Lib.Hide
import Derived.Deep.QuietTactic
import Derived.BigQuiet
import Derived.Deep.Draws
import Derived.Maps.OwnSet
import Derived.Maps.OwnOps
import Derived.OpenShut
import Derived.Deep.Slices
import Derived.Deep.Fields
import Derived.ChangeSame
import Derived.Carry
import GoSem.Core.View
import Derived.RegionCalls
import Derived.StillTailTactics
import Derived.Laws.LoneSync
import Derived.Laws.OwnMore
import Derived.OwnWalk
import Derived.Deep.RegionHeld3
import Derived.Handy
import Derived.Laws.Externs
import Derived.Test.YtglokdbiggbkjaaGreatMgWholeRefuses0
set_option linter.unusedVariables false
set_option linter.unusedSimpArgs false
set_option linter.defProp false
set_option maxRecDepth 100000
set_option maxHeartbeats 16000000
open Go.Proofs.Tryz
namespace Go.Proofs.YtglokdbiggbkjaaGreat
open Go.IntKind(i64)
open Go.Value(int bool slice agg tuple pointer)
open Go.Ending(returned)
open Go.Obj(cells)
variable{P:Program}{f:FuncId}{B sz base n Mo b0 i N H:Nat}{w w':World}{v:Value}{e t:TypeId}{args cs:Array Value}{p:Addr}{xs:List Value}{NM:Nat->Bool}{NB:Bool}{S T:List Nat}{x:Int}
section
open Go.ChangeShapes Go.WideShapes Go.ChangeAt Go.RowKit
def sB:laidOutB Tryz.pinned.checked.prog=true:=by kernel_rfl
def uQ:mapsRowed Tryz.pinned.checked.prog=true:=by kernel_rfl
theorem tO:(Tryz.pinned.checked.prog).stopsHeard=true:=by kernel_rfl
theorem yt:(Tryz.pinned.checked.prog).mayEnter=true:=by kernel_rfl
end
section
open Go.RowKit
def RdL{α:Type}(w:World)(v:Value)(sz:Nat)(enc:α->List Value)(l:List α):Prop:=
 ∃A cap,v= .slice A l.length cap/\l.length<=cap/\l.length<=140737488355328/\
  (0<l.length->∃b off,A=some ⟨b,off,none⟩/\b<w.heap.size/\∀i x,l[i]? =some x->∀j u,(enc x)[j]? =some u->Z w b (off+i*sz+j) u)
def Qt(w w':World):Prop:=∃n,w'=w.drewN n
def Qt.refl(w:World):Qt w w:=⟨0,rfl⟩
def cl{a:World}(h:Below B a w)(n:Nat):Below B a (w.drewN n):=⟨h.os,h.tape,h.output,h.size,h.block⟩
def Qt.below(h:Qt w w')(B:Nat):Below B w w':=by obtain⟨n,rfl⟩:=h;exact cl (Below.refl _ _) n
def aT{a:Addr}(h:w.cell? a=some v):a.block<w.heap.size:=World.block_lt_of_cell? w a h
section
variable{α:Type}{enc:α->List Value}{l:List α}
def RdL.keep(h:RdL w v sz enc l)(hs:w.heap.size<=w'.heap.size)(Y:∀p:Addr,p.block<w.heap.size->w'.cell? p=w.cell? p):RdL w' v sz enc l:=by obtain⟨A,cap,h1,H,O,V⟩:=h;refine⟨A,cap,h1,H,O,λhn=>?_⟩;obtain⟨b,off,e,I,hc⟩:=V hn;exact⟨b,off,e,by omega,λi x hx j u hu=>(Y _ I).trans (hc i x hx j u hu)⟩
def RdL.below(h:RdL w v sz enc l)(I:Below B w w')(H:w.heap.size<=B):RdL w' v sz enc l:=
 h.keep I.size λp O=>I.cell ahE
def RdL.drewN(h:RdL w v sz enc l)(n:Nat):RdL (w.drewN n) v sz enc l:=h
def RdL.alloc(h:RdL w v sz enc l)(o:Obj):RdL (w.alloc o) v sz enc l:=h.keep ahF λp H=>World.cell?_alloc_lt w o p H
def RdL.nil:RdL w (.slice none 0 0) sz enc []:=⟨none,0,rfl,by simp,by simp,by simp⟩
end
def bX{α:Type}(enc:α->List Value)(sz:Nat)(hs:∀x,(enc x).length=sz)(l:List α):∀i x j u,l[i]? =some x->(enc x)[j]? =some u->(l.flatMap enc)[i*sz+j]? =some u:=by
  induction l with
  | nil=>intro i x j u h;simp at h
  | cons a l I=>
    intro i x j u h H;have O:j<sz:=(by have:=(List.getElem?_eq_some_iff.1 H).1;rw[hs]at this;exact this);cases i with
    | zero=>simp at h;subst h;rw[List.flatMap_cons,List.getElem?_append_left (by rw[hs];omega)];simpa using H
    | succ i=>rw[List.flatMap_cons,List.getElem?_append_right (by rw[hs,Nat.succ_mul];omega),hs];have:(i+1)*sz+j-sz=i*sz+j:=(by rw[Nat.succ_mul];omega);rw[this];exact I i x j u (by simpa using h) H
def RdL.of_own{α:Type}{enc:α->List Value}{l:List α}(hs:∀x,(enc x).length=sz)(hn:n=l.length)(O:l.length<=140737488355328)(h:w.ownsRow base e sz v n (l.flatMap enc)):RdL w v sz enc l:=by
  subst hn;rcases h.2 with⟨rfl,Y⟩|⟨g,cap,MH,rfl,I,hg,V,P4,JP,ht⟩
  . have:l=[]:=List.eq_nil_of_length_eq_zero Y;subst this;exact RdL.nil
  . refine⟨some ⟨g,0,none⟩,cap,rfl,V,O,λ_=>⟨g,0,rfl,(Array.getElem?_eq_some_iff.1 hg).1,?_⟩⟩;intro i x hx j u hu;have hc:=h.cells (g:=g) rfl (i*sz+j) u (bX enc sz hs l i x j u hx hu);have H:(⟨g,0,none⟩:Addr).add (i*sz+j)=⟨g,0+i*sz+j,none⟩:=(by unfold Addr.add;split<;>simp_all);rw[H]at hc;exact hc
def ak{α:Type}{l:List α}{k:Nat}(h:k<l.length):∃x,l[k]? =some x:=⟨l[k],List.getElem?_eq_getElem h⟩
def cj{α:Type}{l:List α}{k:Nat}{x:α}(h:l[k]? =some x):l.take (k+1)=l.take k++[x]:=by rw[List.take_add_one,h];rfl
def bG(h:Calls P f args (w.drewN n) λe w'=>e= returned v/\w.drewN n=w'):Calls P f args (w.drewN n) λe H=>e= returned v/\∃m,H=w.drewN m:=
  h.mono λ_ _ ⟨I,hm⟩=>⟨I,n,hm.symm⟩
def BO(h:Calls P f args (w.drewN n) λe w'=>e= returned v/\Qt (w.drewN n) w'):Calls P f args (w.drewN n) λe H=>e= returned v/\∃m,H=w.drewN m:=
  h.mono λ_ _ ⟨I,m,hm⟩=>⟨I,n+m,by rw[hm,World.drewN_drewN]⟩
def encI(z:Int):List Value:=[J z]
def so(z:Int):(encI z).length=1:=rfl
def Blk(w:World)(g:Nat)(t:TypeId)(cs:Array Value):Prop:=w.heap[g]? =some (.cells cs t (0,0))
section
variable{g:Nat}
def Blk.lt(h:Blk w g t cs):g<w.heap.size:=lt_of_block h
def Blk.cell(h:Blk w g t cs)(i:Nat):w.cell? ⟨g,i,none⟩=cs[i]?:=cell_of_row w g i cs t (0,0) h
def Blk.free(h:Blk w g t cs)(i:Nat):w.frozen? ⟨g,i,none⟩=false:=by unfold Blk at h;simp[World.frozen?,h]
def Blk.new(w:World)(t:TypeId)(cs:Array Value):Blk (w.alloc (.cells cs t)) w.heap.size t cs:=heap_alloc_new w _
def Blk.new'(w:World)(t:TypeId)(cs:Array Value){g:Nat}(hg:g=w.heap.size):Blk (w.alloc (.cells cs t)) g t cs:=by subst hg;exact heap_alloc_new w _
def Blk.drewN(h:Blk w g t cs)(n:Nat):Blk (w.drewN n) g t cs:=h
def Blk.drew(h:Blk w g t cs):Blk w.drew g t cs:=h
def Blk.alloc(h:Blk w g t cs)(o:Obj):Blk (w.alloc o) g t cs:=(Below.heap_alloc w o g h.lt).trans h
def Blk.set_(h:Blk w g t cs)(i:Nat)(u:Value):Blk (w.setCell ⟨g,i,none⟩ u) g t (cs.setIfInBounds i u):=by unfold Blk at h ⊢;simp[World.setCell,Array.getElem?_modify,h]
def Blk.far(h:Blk w g t cs)(H:g≠p.block)(u:Value):Blk (w.setCell p u) g t cs:=(Below.heap_setCell w p u g H).trans h
def Blk.below(h:Blk w g t cs)(I:Below B w w')(hg:g<B):Blk w' g t cs:=(I.block g hg).trans h
def Blk.grown{row:Option Nat}(h:Blk w g t cs)(I:w.grownBy w' row)(hg:some g≠row):Blk w' g t cs:=(I.block g h.lt hg).trans h
end
def uG(w:World)(row:Option Nat):w.grownBy w row:=⟨rfl,rfl,rfl,Nat.le_refl _,λ_ _ _=>rfl⟩
def yc{a:World}{g:Nat}(h:a.grownBy w (some g))(o:Nat)(u:Value):a.grownBy (w.setCell ⟨g,o,none⟩ u) (some g):=
 ⟨h.os,h.tape,h.output,by simpa[World.setCell]using h.size,λi hi H=>(Below.heap_setCell w ⟨g,o,none⟩ u i (by
  rintro rfl
  exact H rfl)).trans (h.block i hi H)⟩
def uy{α:Type}{a b:List α}(H:a.length=b.length)(h:a.take a.length=b.take a.length):a=b:=by rw[List.take_length]at h;rw[h,H,List.take_length]
def qD(p:Int×Int):List Value:=[J p.1,J p.2]
def As(p:Int×Int):(qD p).length=2:=rfl
def aA{a b:Bool}(h:a=b):Ending.returned (.bool a)= returned (.bool b):=by rw[h]
def bZ{k:IntKind}{a b:Int}(h:a=b):Ending.returned (.int k a)= returned (.int k b):=by rw[h]
def bO(h:w.ownsRow base e sz v n xs):∃A c,v= .slice A n c:=by
 rcases h.2 with⟨rfl,rfl⟩|⟨g,cap,H,rfl,_⟩
 .exact⟨_,_,rfl⟩
 .exact⟨_,_,rfl⟩
def gG(h:w.ownsRow base e sz v n xs)(O:0<n):∃g c,v= slice (some ⟨g,0,none⟩) n c/\base<=g/\g<w.heap.size:=by
  rcases h.2 with⟨rfl,rfl⟩|⟨g,cap,H,rfl,I,hg,_⟩
  . omega
  . exact⟨_,_,rfl,I,(Array.getElem?_eq_some_iff.1 hg).1⟩
end
section
open Go.RowKit Go.Maps
structure Ev where
 kind:Int
 thread:Int
 read:Bool
 count:Int
instance:DecidableEq Ev:=λa b=>decidable_of_iff (a.kind=b.kind/\a.thread=b.thread/\a.read=b.read/\a.count=b.count) (by cases a;cases b;simp)
def pA{α:Type}(l:List α)(x:α)(i:Nat):(l++[x])[i]? =if i<l.length then l[i]? else if i=l.length then some x else none:=by
 split;.rw[List.getElem?_append_left ahE]
 .split;.subst i;simp
  .rw[List.getElem?_eq_none];simp;omega
end
section
open Go.RowKit Go.ChangeShapes Go.WideShapes Go.Deep
def kU{α:Type}(Q:Nat->α->Prop):∀n:Nat,(∀i,i<n->∃x,Q i x)->∃l:List α,l.length=n/\∀i x,l[i]? =some x->Q i x
 |0,_=>⟨[],rfl,by intro i x h;simp at h⟩
 |n+1,h=>by
  obtain⟨l,I,V⟩:=kU Q n (λi hi=>h i ahE);obtain⟨y,Y⟩:=h n ahE;refine⟨l++[y],by simp[I],λi x H=>?_⟩;rw[pA]at H;split at H;.exact V i x H
  .split at H;.rename_i _ O;injection H with H;subst H;rw[O,I];exact Y
   .cases H
section
variable{H:Type}{enc:TypeId×Value->H}
def fR{b off:Nat}(j:Nat):(⟨b,off,none⟩:Addr).add j=⟨b,off+j,none⟩:=by unfold Addr.add;split<;>simp_all
def tm{x:DataW H×List MemPlace}(ht:P.underlying t=some (.slice e))(he:P.underlying e=some (.int .i64))(hc:P.cellsOf e=1)(h:DataW.trod enc P w base NM NB Mo t [v]=some x):∃A cap O,v= .slice A O.length cap/\O.length<=maxLen/\(O.length<=140737488355328->RdL w v 1 encI O)/\∀z∈O,(Lit.int .i64 z).wf=true:=by
  rcases open_ints ht he hc h with⟨V,_⟩|⟨a,len,cap,O,V,_,hl,hm,hz,_,Mu,YY⟩
  . simp at V;subst V;exact⟨none,0,[],rfl,by simp,λ_=>RdL.nil,by simp⟩
  . simp at V;subst V;have RN:len<=O.length:=(by rw[hz];split<;>omega);refine⟨some a,cap,O.take len,by simp[RN],by simp;omega,λI=>?_,λz Y2=>YY z (List.mem_of_mem_take Y2)⟩;have Y:(O.take len).length=len:=(by simp[RN]);refine⟨some a,cap,by rw[Y],by omega,I,λhn=>?_⟩;rw[Y]at hn;have h0:=Mu 0 ahE;obtain⟨b,off,spot⟩:=a;have hs:spot=none:=(by simpa[Addr.add]using World.cell?_spot h0);subst hs;refine⟨b,off,rfl,World.block_lt_of_cell? w _ (by rw[fR]at h0;exact h0),λi y hy j u hu=>?_⟩;have hi:i<len:=(by have:=(List.getElem?_eq_some_iff.1 hy).1;rw[Y]at this;exact this);have LC:=Mu i ahE;rw[fR]at LC;have hj:j=0:=(by have:=(List.getElem?_eq_some_iff.1 hu).1;simp[encI]at this;exact this);subst hj;have NL:O.getD i 0=y:=(by rw[List.getElem?_take,if_pos hi]at hy;rw[List.getD_eq_getElem?_getD,hy];rfl);have YV:u= J y:=(by simpa[encI]using hu.symm);rw[Nat.mul_one,Nat.add_zero,LC,YV,NL]
def lh{O:Array Field}{cs:List Value}{x:DataW H×List MemPlace}(ht:P.underlying t=some (.slice e))(he:P.underlying e=some (.struct O))(O9:oneCellFields P O=true)(hC:P.cellsOf e=O.size)(h:DataW.trod enc P w base NM NB Mo t cs=some x):cs=[.slice none 0 0]\/
    ∃(a:Addr) (len cap:Nat),cs=[.slice (some a) len cap]/\len<=cap/\cap<=maxLen/\
      ∀i,i<len->∀(j:Nat) (f:Field),O[j]? =some f->∃(v:Value) (n:Nat) (y:DataW H×List MemPlace),w.cell? (a.add (i*O.size+j))=some v/\DataW.trod enc P w base NM NB n f.type [v]=some y:=by
  rcases open_slice ht h with h0|⟨a,len,cap,m,n,D,Pl,JP,I,hl,hm,Yt,hx,hi⟩
  . exact .inl h0.1
  . refine .inr ⟨a,len,cap,JP,hl,hm,λi ab j f hj=>?_⟩;have Ye:i<m:=(by rw[Yt];split<;>omega);obtain⟨V,hc,MW⟩:=hi i Ye;rw[hC]at hc;obtain⟨ys,n',Th,hy,J4,Pq,hf⟩:=DataW.trod_struct he MW;obtain⟨_,U8,LB⟩:=World.cells?_some hc;obtain⟨Y,hk⟩:=hone_of O9 j f hj;have Mz:j<O.size:=(Array.getElem?_eq_some_iff.1 hj).1;have Mu:=LB j Mz;have h1:=hf j f hj;rw[Y,hk]at h1;have YC:(V.drop j).take 1=[V[j]' ahE]:=(by rw[List.drop_eq_getElem_cons ahE];rfl);rw[YC]at h1;have Y0:ys[j]? =some (ys[j]' ahE):=List.getElem?_eq_getElem ahE;refine⟨V[j]' ahE,n',ys[j]' ahE,?_,h1.trans Y0⟩;rw[<-Go.Deep.add_add,Mu];exact List.getElem?_eq_getElem ahE
end
end
section
open Go.RowKit Go.ChangeShapes Go.WideShapes Go.Deep
theorem Tryz.cellsTopo:prog.cellsOf 24=2:=by kernel_rfl
theorem Tryz.cellsInts:prog.cellsOf 22=1:=by kernel_rfl
theorem Tryz.cellsInt:prog.cellsOf 3=1:=by kernel_rfl
section
variable{H:Type}{enc:TypeId×Value->H}
def yD{r:Reach}{x:DataW H×List MemPlace}(O:Value.okWide prog w r b0 24 v)(h:DataW.trod enc prog w base NM NB Mo 24 v.cells.toList=some x):∃I cP P V Y T,v= agg #[.slice I (List.length (α:=Int) P) cP,.slice V (List.length (α:=Int) T) Y]/\P.length<=maxLen/\T.length<=maxLen/\(P.length<=140737488355328->RdL w (.slice I P.length cP) 1 encI P)/\(T.length<=140737488355328->RdL w (.slice V T.length Y) 1 encI T):=by
  obtain⟨cs,rfl,J0⟩:=okWide_struct Tryz.underlying24 O;rw[Tryz.cellsTopo]at J0;obtain⟨xs,m,_,_,_,L0,hf⟩:=DataW.trod_struct Tryz.underlying24 h;obtain⟨l⟩:=cs;match l,J0 with
  | [c0,c1],_=>
    match xs,L0 with
    | [y0,y1],_=>have g0:=hf 0 _ rfl;have g1:=hf 1 _ rfl;simp[Value.cells,Tryz.cellsInts]at g0 g1;obtain⟨I,cP,P,e0,m0,R0,_⟩:=tm Tryz.underlying22 Tryz.underlying3 Tryz.cellsInt g0;obtain⟨V,Y,T,e1,m1,R1,_⟩:=tm Tryz.underlying22 Tryz.underlying3 Tryz.cellsInt g1;subst e0 e1;exact⟨I,cP,P,V,Y,T,rfl,m0,m1,R0,R1⟩
end
end
section
open Go.RowKit Go.ChangeShapes Go.WideShapes Go.Deep
section
variable{H:Type}{enc:TypeId×Value->H}
def BK{ti:TypeId}{f0 f1:Field}{x:DataW H×List MemPlace}(ht:P.underlying t=some (.slice e))(he:P.underlying e=some (.struct #[f0,f1]))(O9:oneCellFields P #[f0,f1]=true)(hC:P.cellsOf e=2)(h0:f0.type=ti)(h1:f1.type=ti)(Ng:P.underlying ti=some (.int .i64))(h:DataW.trod enc P w base NM NB Mo t [v]=some x):∃A cap l,v= .slice A l.length cap/\l.length<=maxLen/\(l.length<=140737488355328->RdL w v 2 qD l):=by
  rcases lh ht he O9 (by rw[hC];rfl) h with O|⟨a,len,cap,O,hl,hm,hf⟩
  . simp at O;subst O;exact⟨none,0,[],rfl,by simp,λ_=>RdL.nil⟩
  . simp at O;subst O;have XA:∀i,i<len->∃z:Int×Int,w.cell? (a.add (i*2+0))=some (J z.1)/\w.cell? (a.add (i*2+1))=some (J z.2):=(by intro i hi;obtain⟨v0,n0,y0,c0,r0⟩:=hf i hi 0 f0 rfl;obtain⟨v1,n1,y1,c1,r1⟩:=hf i hi 1 f1 rfl;rw[h0]at r0;rw[h1]at r1;obtain⟨a0,e0,_,w0⟩:=DataW.trod_int Ng r0;obtain⟨a1,e1,_,w1⟩:=DataW.trod_int Ng r1;simp at e0 e1;subst e0 e1;exact⟨(a0,a1),c0,c1⟩);obtain⟨l,Y,hq⟩:=kU _ len XA;refine⟨some a,cap,l,by rw[Y],by omega,λI=>?_⟩;refine⟨some a,cap,by rw[Y],by omega,I,λhn=>?_⟩;obtain⟨z0,JF⟩:=ak (show 0<l.length from hn);have hc0:=(hq 0 z0 JF).1;obtain⟨b,off,spot⟩:=a;have hs:spot=none:=(by simpa[Addr.add]using World.cell?_spot hc0);subst hs;refine⟨b,off,rfl,World.block_lt_of_cell? w _ (by rw[fR]at hc0;exact hc0),λi y hy j u V=>?_⟩;have hc:=hq i y hy;simp only[fR,<-Nat.add_assoc]at hc;have hj:j<2:=(by have:=(List.getElem?_eq_some_iff.1 V).1;simpa[qD]using this);obtain rfl|rfl:j=0\/j=1:=by omega
    . rw[hc.1];simpa[qD]using V
    . rw[hc.2];simpa[qD]using V
end
end
section
open Go.RowKit Go.ChangeShapes Go.WideShapes Go.Deep
theorem Tryz.cellsSpec:prog.cellsOf 38=5:=by kernel_rfl
theorem Tryz.cellsPair:prog.cellsOf 36=4:=by kernel_rfl
section
variable{H:Type}{enc:TypeId×Value->H}
def yC{r:Reach}{x:DataW H×List MemPlace}(O:Value.okWide prog w r b0 38 v)(h:DataW.trod enc prog w base NM NB Mo 38 v.cells.toList=some x):∃k g l p b:Int,v= agg #[J k,J g,J l,J p,J b]:=by
  obtain⟨cs,rfl,V⟩:=okWide_struct Tryz.underlying38 O;rw[Tryz.cellsSpec]at V;obtain⟨xs,m,_,_,_,L0,hf⟩:=DataW.trod_struct Tryz.underlying38 h;obtain⟨l⟩:=cs;match l,V with
  | [c0,c1,c2,c3,c4],_=>
    match xs,L0 with
    | [y0,y1],_=>
      have Y:=hf 0 _ rfl;have g1:=hf 1 _ rfl;simp[Value.cells,Tryz.cellsInt,Tryz.cellsPair]at Y g1;obtain⟨a0,e0,_,_⟩:=DataW.trod_int Tryz.underlying3 Y;obtain⟨zs,n,_,_,_,RN,I⟩:=DataW.trod_struct Tryz.underlying36 g1;match zs,RN with
      | [z0,z1,z2,z3],_=>have q0:=I 0 _ rfl;have q1:=I 1 _ rfl;have q2:=I 2 _ rfl;have q3:=I 3 _ rfl;simp[Tryz.cellsInt]at q0 q1 q2 q3;obtain⟨b0,u0,_,_⟩:=DataW.trod_int Tryz.underlying3 q0;obtain⟨b1,u1,_,_⟩:=DataW.trod_int Tryz.underlying3 q1;obtain⟨b2,u2,_,_⟩:=DataW.trod_int Tryz.underlying3 q2;obtain⟨b3,u3,_,_⟩:=DataW.trod_int Tryz.underlying3 q3;simp at e0 u0 u1 u2 u3;subst e0 u0 u1 u2 u3;exact⟨_,_,_,_,_,rfl⟩
end
end
section
open Go.RowKit
structure aa(S:List Nat)(w w':World):Prop where
 os:w'.os=w.os
 tape:w'.tape=w.tape
 output:w'.output=w.output
 size:w.heap.size<=w'.heap.size
 block:∀i,i<w.heap.size->i∉S->w'.heap[i]? =w.heap[i]?
section
variable{a b c:World}
def aa.refl(S:List Nat)(w:World):aa S w w:=⟨rfl,rfl,rfl,Nat.le_refl _,λ_ _ _=>rfl⟩
def aa.trans(h:aa S a b)(k:aa S b c):aa S a c:=
 ⟨k.os.trans h.os,k.tape.trans h.tape,k.output.trans h.output,Nat.le_trans h.size k.size,λi hi H=>(k.block i (Nat.lt_of_lt_of_le hi h.size) H).trans (h.block i hi H)⟩
def aa.mono(h:aa S a b)(hs:∀i∈S,i∈T):aa T a b:=⟨h.os,h.tape,h.output,h.size,λi hi H=>h.block i hi λk=>H (hs i k)⟩
def aa.fresh(h:aa S a b)(hs:∀i∈S,i∈T\/a.heap.size<=i):aa T a b:=
 ⟨h.os,h.tape,h.output,h.size,λi hi H=>h.block i hi λk=>(hs i k).elim H λh=>by omega⟩
def aa.alloc(h:aa S a w)(o:Obj):aa S a (w.alloc o):=
 ⟨h.os,h.tape,h.output,Nat.le_trans h.size ahF,λi hi H=>(Below.heap_alloc w o i (Nat.lt_of_lt_of_le hi h.size)).trans (h.block i hi H)⟩
def aa.setCell(h:aa S a w)(H:p.block∈S\/a.heap.size<=p.block)(u:Value):aa S a (w.setCell p u):=
 ⟨h.os,h.tape,h.output,by simpa[World.setCell]using h.size,λi hi I=>(Below.heap_setCell w p u i (by
  rintro rfl
  rcases H with H|H
  .exact I H
  .omega)).trans (h.block i hi I)⟩
def aa.drewN(h:aa S a w)(n:Nat):aa S a (w.drewN n):=⟨h.os,h.tape,h.output,h.size,h.block⟩
def aa.drew(h:aa S a w):aa S a w.drew:=⟨h.os,h.tape,h.output,h.size,h.block⟩
def aa.of_below(h:Below a.heap.size a b):aa S a b:=⟨h.os,h.tape,h.output,h.size,λi hi _=>h.block i hi⟩
def aa.of_qt(h:Qt a b):aa S a b:=aa.of_below (h.below _)
def aa.below(h:aa S a b)(H:∀i∈S,B<=i)(I:B<=a.heap.size):Below B a b:=
 ⟨h.os,h.tape,h.output,h.size,λi hi=>h.block i ahE λk=>by have:=H i k;omega⟩
def aa.blk{g:Nat}(h:aa S w w')(I:Blk w g t cs)(hg:g∉S):Blk w' g t cs:=(h.block g I.lt hg).trans I
def aa.grown{g:Nat}(h:w.grownBy w' (some g)):aa [g] w w':=⟨h.os,h.tape,h.output,h.size,λi hi H=>h.block i hi (by intro e;injection e with e;exact H (by simp[e]))⟩
def aa.own(h:w.ownsRow base e sz v n xs)(k:aa S w w')(hn:∀g,v.ownBlock=some g->g∉S):w'.ownsRow base e sz v n xs:=by
 cases O:v.ownBlock with
 |none=>
  rcases h.2 with⟨rfl,Y⟩|⟨g,cap,V,rfl,_⟩
  .exact⟨h.1,.inl ⟨rfl,Y⟩⟩
  .simp[Value.ownBlock]at O
 |some g=>
  have hg:g∉S:=hn g O;have hl:=(h.lt g O).2;rcases h.2 with⟨rfl,Y⟩|⟨H,cap,V,rfl,I,hc,r⟩
  .simp[Value.ownBlock]at O
  .have e:H=g:=(by simpa[Value.ownBlock]using O);subst e;exact⟨h.1,.inr ⟨H,cap,V,rfl,I,(k.block H hl hg).trans hc,r⟩⟩
end
def aa.cellC(t:aa S w w')(H:p.block<w.heap.size)(h:p.block∉S):w'.cell? p=w.cell? p:=by unfold World.cell?;rw[t.block _ H h]
end
section
open Go
variable{i:Int}
structure Ar where
 W:List Int
 room:Nat
 ops:Nat
 k:Int
 at_:Int
 wr:Bool
def inR(W:List Int)(x:Int):Bool:=decide (1<=x/\x<=W.length)
def ldW(W:List Int)(x:Int):Int:=if inR W x then W.getD (x.toNat-1) 0 else 0
def stW(W:List Int)(x v:Int):List Int:=if inR W x then W.set (x.toNat-1) v else W
def fy(s:Ar)(k x:Int)(wr:Bool):Ar:=if inR s.W x then {s with ops:=s.ops+1,k:=k,at_:=x,wr:=wr} else s
def wrA(s:Ar)(x v:Int):Ar:={s with W:=stW s.W x v}
def af(s:Ar)(x:Int):Ar:=fy s 1 x false
def ae(s:Ar)(x v:Int):Ar:=wrA (fy s 2 x true) x v
def ch(s:Ar)(x v:Int):Ar:=wrA (fy s 3 x true) x v
def cG(s:Ar)(x old:Int):Bool:=inR s.W x&&decide (ldW s.W x=old)
def dR(s:Ar)(x old v:Int):Ar:=if cG s x old then wrA (fy s 4 x true) x v else fy s 4 x false
def addA(s:Ar)(x d:Int):Ar:=wrA (fy s 5 x true) x (IntKind.i64.wrap (ldW s.W x+d))
def bI(W:List Int)(x v:Int):(stW W x v).length=W.length:=by unfold stW;split<;>simp
def aR{W:List Int}:inR W x=true↔1<=x/\x<=W.length:=by unfold inR;exact decide_eq_true_iff
def iO{W:List Int}:inR W x=false↔¬(1<=x/\x<=W.length):=by unfold inR;exact decide_eq_false_iff_not
structure Sp where
 pc:Int
 a:Int
 b:Int
 c:Int
def Sp.zero:Sp:=⟨0,0,0,0⟩
theorem FT{p q:Sp}(h1:p.pc=q.pc)(h:p.a=q.a)(H:p.b=q.b)(I:p.c=q.c):p=q:=by cases p;cases q;simp at *;exact⟨h1,h,H,I⟩
def okI(S:List Sp)(i:Int):Prop:=0<=i/\i<S.length
instance (S:List Sp)(i:Int):Decidable (okI S i):=by unfold okI;infer_instance
def getS(S:List Sp)(i:Int):Sp:=if 0<=i/\i<S.length then S.getD i.toNat Sp.zero else Sp.zero
def dG{S:List Sp}(h:okI S i):S[i.toNat]? =some (getS S i):=by
 unfold getS;rw[if_pos (show 0<=i/\i<S.length from h),List.getD_eq_getElem?_getD];have:i.toNat<S.length:=by have:=h.1;have:=h.2;omega
 rw[List.getElem?_eq_getElem this];rfl
def dz{S:List Sp}(h:¬okI S i):getS S i=Sp.zero:=by unfold getS;rw[if_neg (show ¬(0<=i/\i<S.length)from h)]
def sv(S:List Sp)(j:Nat):Sp:=S.getD j Sp.zero
def nY{α:Type}(l:List α)(i j:Nat)(a d:α):(l.set i a).getD j d=if i=j/\i<l.length then a else l.getD j d:=by
 rw[List.getD_eq_getElem?_getD,List.getD_eq_getElem?_getD,List.getElem?_set];by_cases h:i=j
 .subst h;by_cases H:i<l.length;.simp[H]
  .simp[H]
 .simp[h]
theorem ba(S:List Sp)(i j:Nat)(p:Sp):sv (S.set i p) j=if i=j/\i<S.length then p else sv S j:=nY _ _ _ _ _
def dI(s:Ar)(k x:Int)(wr:Bool):(fy s k x wr).W=s.W:=by unfold fy;split<;>rfl
def iU(s:Ar)(k x:Int)(wr:Bool)(h:inR s.W x=false):fy s k x wr=s:=by unfold fy;rw[h];rfl
def rD(s:Ar)(x v:Int)(h:inR s.W x=false):wrA s x v=s:=by unfold wrA stW;rw[h];rfl
def jg{W:List Int}(h:inR W x=true):ldW W x=W.getD (x.toNat-1) 0:=by unfold ldW;rw[if_pos h]
def kS{W:List Int}(h:inR W x=false):ldW W x=0:=by unfold ldW;rw[h];rfl
def xp(s:Ar)(x v:Int):(wrA s x v).W=stW s.W x v:=rfl
def aP(s:Ar)(x:Int):(af s x).W=s.W:=dI _ _ _ _
def aw(s:Ar)(x v:Int):(ae s x v).W=stW s.W x v:=by unfold ae;rw[xp,dI]
def dK(s:Ar)(x v:Int):(ch s x v).W=stW s.W x v:=by unfold ch;rw[xp,dI]
def gL(s:Ar)(x o v:Int):(dR s x o v).W=if cG s x o then stW s.W x v else s.W:=by unfold dR;split<;>rename_i h<;>simp only[xp,dI]
def dT(s:Ar)(x d:Int):(addA s x d).W=stW s.W x (IntKind.i64.wrap (ldW s.W x+d)):=by unfold addA;rw[xp,dI]
def fK(s:Ar)(k x:Int)(wr:Bool):(fy s k x wr).ops<=s.ops+1:=by unfold fy;split<;>simp
def iP(s:Ar)(x:Int):(af s x).ops<=s.ops+1:=fK _ _ _ _
def g8(s:Ar)(x v:Int):(ae s x v).ops<=s.ops+1:=fK _ _ _ _
def eY(s:Ar)(x v:Int):(ch s x v).ops<=s.ops+1:=fK _ _ _ _
def ju(s:Ar)(x d:Int):(addA s x d).ops<=s.ops+1:=fK _ _ _ _
def nz(s:Ar)(x o v:Int):(dR s x o v).ops<=s.ops+1:=by unfold dR;split<;>exact fK _ _ _ _
def gu{W:List Int}(h:inR W x=true)(v y:Int):ldW (stW W x v) y=if y=x then v else ldW W y:=by
 obtain⟨h1,O⟩:=aR.1 h;unfold ldW stW;rw[if_pos h];have e:inR (W.set (x.toNat-1) v) y=inR W y:=by unfold inR;rw[List.length_set]
 rw[e];by_cases H:inR W y=true
 .rw[if_pos H,if_pos H,List.getD_eq_getElem?_getD,List.getElem?_set];obtain⟨V,Y⟩:=aR.1 H;by_cases I:y=x;.subst I;rw[if_pos rfl,if_pos rfl,if_pos ahE];rfl
  .rw[if_neg I,if_neg ahE,List.getD_eq_getElem?_getD]
 .rw[if_neg H,if_neg H];rw[if_neg];rintro rfl;exact H h
end
section
open Go.RowKit
variable{q:Nat}{S:List Sp}{p:Sp}
def bf(p:Sp):List Value:=[J p.pc,J p.a,J p.b,J p.c]
def iH(p:Sp):(bf p).length=4:=rfl
def dy(w:World)(q:Nat)(S:List Sp):Prop:=Blk w q 113 (S.flatMap bf).toArray
def dy.cell(h:dy w q S)(H:S[i]? =some p)(j:Nat)(u:Value)(I:(bf p)[j]? =some u):Z w q (i*4+j) u:=by rw[Blk.cell h];simpa using bX bf 4 iH S i p j u H I
def mQ{α:Type}(enc:α->List Value)(sz:Nat)(hs:∀x,(enc x).length=sz)(l:List α):∀k x x' j u,l[k]? =some x->j<sz->(enc x).set j u=enc x'->(l.flatMap enc).set (k*sz+j) u=(l.set k x').flatMap enc:=by
  induction l with
  | nil=>intro k x x' j u h;simp at h
  | cons a l O=>
    intro k x x' j u h I H;cases k with
    | zero=>simp at h;subst h;rw[List.set_cons_zero,List.flatMap_cons,List.flatMap_cons,List.set_append_left _ _ (by rw[hs];omega)];simp[H]
    | succ k=>rw[List.set_cons_succ,List.flatMap_cons,List.flatMap_cons,List.set_append_right _ _ (by rw[hs,Nat.succ_mul];omega),hs];have:(k+1)*sz+j-sz=k*sz+j:=(by rw[Nat.succ_mul];omega);rw[this,O k x x' j u (by simpa using h) I H]
def dy.put(h:dy w q S){p':Sp}(O:S[i]? =some p){j:Nat}{u:Value}(I:j<4)(H:(bf p).set j u=bf p'):dy (w.setCell ⟨q,i*4+j,none⟩ u) q (S.set i p'):=by have h1:=Blk.set_ h (i*4+j) u;unfold dy;rw[List.setIfInBounds_toArray,mQ bf 4 iH S i p p' j u O I H]at h1;exact h1
def dy.lt(h:dy w q S):q<w.heap.size:=Blk.lt h
def dy.free(h:dy w q S)(i:Nat):w.frozen? ⟨q,i,none⟩=false:=Blk.free h i
def dy.turns(h:dy w q S)(k:aa T w w')(H:q∉T):dy w' q S:=k.blk h H
def aF(p:Sp):Value:= agg #[J p.pc,J p.a,J p.b,J p.c]
def aM(a b c d:Int)(w:World):(Instr.field 113 (agg #[J a,J b,J c,J d]) 0).run prog w= .ok (J a) w:=by kernel_rfl
end
section
open Go Go.RowKit
def lkP(lb:Nat):Value:= ↑lb
section
variable{lb:Nat}
def tR(hc:Z w lb 1 (J n)):E 53 #[lkP lb] w λe w'=>e= returned (J n)/\w=w':=by unfold lkP;go_enter func53,ntmps53;exact aaa
def uH(hc:Z w lb 1 (J n))(i:Int)(r:Bool)(V:decide (0<=i/\i<n)=r):E 58 #[lkP lb,J i] w λe w'=>e= returned (.bool r)/\w=w':=by
 have I:=qh (tR hc);obtain⟨v,O⟩:=LE (lkP lb);rw[<-O]at I ⊢;have H:=qh V;clear hc O V;by_cases Y:i<0;.have t0:decide (0<=i)=false:=decide_eq_false ahE;have h:Kq (r=false):=qh (by rw[<-H.o];exact decide_eq_false ahE);clear Y;go_enter func58,ntmps58;go_wp2;go_ret;exact⟨aA h.o.symm,rfl⟩
 .have t0:decide (0<=i)=true:=decide_eq_true ahE;have h:Kq (r=decide (i<(n:Int))):=qh (by rw[<-H.o];by_cases e:i<(n:Int)<;>simp[e];omega);clear Y;go_enter func58,ntmps58;go_wp2_with fail;refine LT I.o ?_;go_wp2;go_ret;exact⟨aA h.o.symm,rfl⟩
end
end
section
open Go.RowKit
def gz(g:Nat)(s:Ar):Array Value:=#[slice (some ⟨g,0,none⟩) s.room s.room,J s.W.length,J s.ops,J s.k,J s.at_,.bool s.wr]
def wdL(s:Ar):List Value:=(s.W++List.replicate (s.room-s.W.length) 0).map (Value.int .i64)
structure aB(w:World)(a g:Nat)(s:Ar):Prop where
 blk:Blk w a 106 (gz g s)
 wds:Blk w g 216 (wdL s).toArray
 ne:a≠g
 le:s.W.length<=s.room
 room:s.room<=4096
 ops:s.ops<=1000000000000
def aB.turns{a g:Nat}{s:Ar}(h:aB w a g s)(k:aa S w w')(H:a∉S)(hg:g∉S):aB w' a g s:=
 ⟨k.blk h.blk H,k.blk h.wds hg,h.ne,h.le,h.room,h.ops⟩
def aB.word{a g:Nat}{s:Ar}(h:aB w a g s)(hi:i<s.W.length):Z w g i (J (s.W.getD i 0))/\w.frozen? ⟨g,i,none⟩=false:=by refine⟨?_,h.wds.free i⟩;rw[h.wds.cell i];simp[wdL,List.getElem?_append,hi]
def Ee(s:Ar)(hi:i<s.W.length)(v:Int):(wdL s).toArray.setIfInBounds i (J v)=(wdL {s with W:=s.W.set i v}).toArray:=by unfold wdL;simp only[List.setIfInBounds_toArray,List.length_set];congr 1;rw[<-List.map_set,List.set_append_left _ _ hi]
section
variable{a g:Nat}{s:Ar}
def aB.c0(h:aB w a g s):w.cell? a=some (slice (some ⟨g,0,none⟩) s.room s.room):=h.blk.cell 0
def aB.c1(h:aB w a g s):Z w a 1 (J s.W.length):=h.blk.cell 1
def aB.c2(h:aB w a g s):Z w a 2 (J s.ops):=h.blk.cell 2
def aB.c3(h:aB w a g s):Z w a 3 (J s.k):=h.blk.cell 3
def aB.c4(h:aB w a g s):Z w a 4 (J s.at_):=h.blk.cell 4
def aB.c5(h:aB w a g s):Z w a 5 (.bool s.wr):=h.blk.cell 5
end
def mU{a g:Nat}{s:Ar}(h:aB w a g s):E 112 #[↑a] w λe w'=>e= returned (J s.W.length)/\w=w':=by have c1:=h.c1;clear h;go_enter func112,ntmps112;go_wp2;go_ret;exact⟨rfl,rfl⟩
def zu{a g:Nat}{s:Ar}(h:aB w a g s):E 14 #[↑a] w λe w'=>e= returned (J s.ops)/\w=w':=by have c1:=h.c2;clear h;go_enter func14,ntmps14;go_wp2;go_ret;exact⟨rfl,rfl⟩
def kh{a g:Nat}{s:Ar}(h:aB w a g s)(x:Int)(O:inR s.W x=true):E 186 #[↑a,J x] w λe w'=>e= returned (pointer (some ⟨g,x.toNat-1,none⟩))/\w=w':=by
  have c0:=h.c0;have H:=qh h;have hl:=h.le;have V:=h.room;obtain⟨h1,Y⟩:=aR.1 O;obtain⟨n,rfl⟩:∃n:Nat,x=((n+1:Nat):Int):=⟨x.toNat-1,by omega⟩;have I:((n+1:Nat):Int).toNat-1=n:=by omega
  rw[I];have t1:¬((n+1:Nat):Int)<1:=by omega
  have t2:¬(s.W.length:Int)<((n+1:Nat):Int):=by omega
  have t3:(n:Int)<s.room:=by omega
  clear h O h1 Y I;go_enter func186,ntmps186;go_wp2_with (go_at_call 112;refine(mU H.o).mono ?_;rintro e w' ⟨rfl,rfl⟩);go_ret;exact⟨by simp,rfl⟩
def jZ{a g:Nat}{s:Ar}(h:aB w a g s)(x:Int)(I:inR s.W x=false):E 186 #[↑a,J x] w λe w'=>e= returned (.pointer none)/\w=w':=by
  have H:=qh h;have O:=iO.1 I;clear h I;by_cases h1:x<1;. go_enter func186,ntmps186;go_wp2_with (go_at_call 112;refine(mU H.o).mono ?_;rintro e w' ⟨rfl,rfl⟩);go_ret;exact⟨rfl,rfl⟩
  . have t2:(s.W.length:Int)<x:=(by omega);clear O;go_enter func186,ntmps186;go_wp2_with (go_at_call 112;refine(mU H.o).mono ?_;rintro e w' ⟨rfl,rfl⟩);go_ret;exact⟨rfl,rfl⟩
def iV{a g:Nat}{s:Ar}(h:aB w a g s)(k x:Int)(wr:Bool)(O:inR s.W x=true)(Y:s.ops+1<=1000000000000):E 187 #[↑a,J k,J x,.bool wr] w λe w'=>e= returned (tuple #[])/\aB w' a g (fy s k x wr)/\aa [a] w w':=by
  have c2:=h.c2;have c3:=h.c3;have c4:=h.c4;have c5:=h.c5;have V:=h.blk.free 2;have f3:=h.blk.free 3;have f4:=h.blk.free 4;have f5:=h.blk.free 5;have hl:=h.blk.lt;have H:=qh h;have HX:=qh O;clear h O;go_enter func187,ntmps187;go_wp2;go_end0;refine⟨rfl,?_,?_⟩;. have I:=(((H.o.blk.set_ 2 (J (s.ops+1))).set_ 3 (J k)).set_ 4 (J x)).set_ 5 (.bool wr);have hw:=(((H.o.wds.far (p:=⟨a,2,none⟩) H.o.ne.symm (J (s.ops+1))).far (p:=⟨a,3,none⟩) H.o.ne.symm (J k)).far (p:=⟨a,4,none⟩) H.o.ne.symm (J x)).far (p:=⟨a,5,none⟩) H.o.ne.symm (.bool wr);have e:fy s k x wr={s with ops:=s.ops+1,k:=k,at_:=x,wr:=wr}:=(by unfold fy;rw[if_pos HX.o]);rw[e];exact⟨I,hw,H.o.ne,H.o.le,H.o.room,Y⟩
  . exact((((aa.refl _ _).setCell (.inl ahF) _).setCell (.inl ahF) _).setCell (.inl ahF) _).setCell (.inl ahF) _
end
section
open Go Go.RowKit
structure LkM(n:Nat) where
 σ:Type
 β:Type
 ok:σ->Nat->Prop
 ar:σ->Ar
 sp:σ->Nat->Sp
 cn:σ->Nat->Int
 rd:Bool
 step:σ->Nat->σ
 ask:σ->Nat->Bool->σ
 leave:σ->Nat->σ
 bt:β->Nat
 hi:β->Nat
 fp:β->List Nat
 is:β->World->Nat->Nat->Nat->σ->Prop
abbrev MS(n:Nat):Type 1:=(M:LkM n)×M.σ
def rdB(rd:Bool)(p:Sp):Bool:=rd&&decide (p.a=1)
def LkM.Act(M:LkM n)(b:M.β)(w:World)(a g lb:Nat)(st':M.σ)(r:Bool)(e:Ending)(w':World):Prop:=
 e= returned (.bool r)/\M.is b w' a g lb st'/\aa (M.fp b) w w'
def lkB:Nat:=1000000
def dg(p p':Sp):Bool:=decide ((p'.pc=10\/p'.pc=0)/\p.pc≠0/\p.pc≠10)
structure LkM.Good{n:Nat}(M:LkM n):Prop where
 n32:1<=n/\n<=32
 okS:∀st N i,M.ok st N->N<lkB->i<n->M.ok (M.step st i) (N+1)
 okA:∀st N i r,M.ok st N->N<lkB->i<n->M.ok (M.ask st i r) (N+1)
 okL:∀st N i,M.ok st N->N<lkB->i<n->M.ok (M.leave st i) (N+1)
 okm:∀st N,M.ok st N->M.ok st (N+1)
 one:∀st N i j,M.ok st N->i<n->j<n->(M.sp st i).pc=10->(M.sp st j).pc=10->rdB M.rd (M.sp st i)=false->i=j
 pcs:∀st N i,M.ok st N->i<n->0<=(M.sp st i).pc
 cnt:∀st N i,M.ok st N->i<n->((M.sp st i).pc=10↔0<M.cn st i)
 opsS:∀st N i,M.ok st N->N<lkB->i<n->(M.ar (M.step st i)).ops<=(M.ar st).ops+1
 arA:∀st i r,M.ar (M.ask st i r)=M.ar st
 arL:∀st i,M.ar (M.leave st i)=M.ar st
 ais:∀b w a g lb st,M.is b w a g lb st->aB w a g (M.ar st)
 lk:∀b w a g lb st,M.is b w a g lb st->w.cell? ⟨lb,1,none⟩=some (int i64 n)
 kd:∀b w a g lb st,M.is b w a g lb st->∃k:Int,w.cell? ⟨lb,0,none⟩=some (int i64 k)/\M.rd=decide (11<=k/\k<=13)
 fpa:∀b w a g lb st,M.is b w a g lb st->(∀x∈M.fp b,x<M.hi b)/\M.hi b<=w.heap.size
 far:∀b w a g lb st w' S,M.is b w a g lb st->aa S w w'->(∀x∈S,M.hi b<=x\/x<M.bt b)->M.is b w' a g lb st
 cS:∀b w a g lb st N i,M.is b w a g lb st->M.ok st N->N<lkB->i<n->
  Calls prog 51 #[lkP lb,int i64 i] w (M.Act b w a g lb (M.step st i) (dg (M.sp st i) (M.sp (M.step st i) i)))
 cA:∀b w a g lb st N i r,M.is b w a g lb st->M.ok st N->N<lkB->i<n->
  Calls prog 50 #[lkP lb,int i64 i,.bool r] w (M.Act b w a g lb (M.ask st i r) (decide ((M.sp st i).pc=0/\(r=true->M.rd=true))))
 cL:∀b w a g lb st N i,M.is b w a g lb st->M.ok st N->N<lkB->i<n->
  Calls prog 52 #[lkP lb,int i64 i] w (M.Act b w a g lb (M.leave st i) (decide ((M.sp st i).pc=10)))
 cP:∀b w a g lb st i,M.is b w a g lb st->i<n->
  Calls prog 57 #[lkP lb,int i64 i] w λe w'=>e= returned (aF (M.sp st i))/\Below w.heap.size w w'
 cC:∀b w a g lb st i,M.is b w a g lb st->i<n->
  Calls prog 18 #[lkP lb,int i64 i] w λe w'=>e= returned (int i64 (M.cn st i))/\Below w.heap.size w w'
end
section
open Go Go.RowKit
variable{i:Int}{p:Sp}
section
variable{M:LkM n}{a g lb:Nat}{b:M.β}{st st':M.σ}
def jl(pc:Int):Int:=if pc=0 then 0 else if pc<10 then 1 else if pc=10 then 2 else 3
def Cd(h:E 57 #[lkP lb,J i] w λe w'=>e= returned (aF p)/\Below w.heap.size w w'):E 16 #[lkP lb,J i] w λe w'=>e= returned (J (jl p.pc))/\Below w.heap.size w w':=by
  have O:=aM;have H:=qh h;clear h;obtain⟨pc,u,v,z⟩:=p;unfold aF at H;obtain⟨q,I⟩:=LE (lkP lb);rw[<-I]at H ⊢;have HX:Kq (jl pc=if (pc==0)=true then 0 else if decide (pc<10)=true then 1 else if (pc==10)=true then 2 else 3):=qh (by unfold jl;simp);clear I;simp only;cases t0:(pc==0)
  . cases t1:decide (pc<10)
    . cases t2:(pc==10);. rw[show jl pc=3 from by rw[HX.o,t0,t1,t2];rfl];go_enter func16,ntmps16;go_wp2_with fail;refine Op H.o λw1 B1=>?_;go_wp2;go_ret;exact⟨rfl,B1.o⟩
      . rw[show jl pc=2 from by rw[HX.o,t0,t1,t2];rfl];go_enter func16,ntmps16;go_wp2_with fail;refine Op H.o λw1 B1=>?_;go_wp2;go_ret;exact⟨rfl,B1.o⟩
    . rw[show jl pc=1 from by rw[HX.o,t0,t1];rfl];go_enter func16,ntmps16;go_wp2_with fail;refine Op H.o λw1 B1=>?_;go_wp2;go_ret;exact⟨rfl,B1.o⟩
  . rw[show jl pc=0 from by rw[HX.o,t0];rfl];go_enter func16,ntmps16;go_wp2_with fail;refine Op H.o λw1 B1=>?_;go_wp2;go_ret;exact⟨rfl,B1.o⟩
def FW(G:M.Good)(h:M.is b w a g lb st)(i:Nat)(hi:i<n):E 16 #[lkP lb,J i] w λe w'=>e= returned (J (jl (M.sp st i).pc))/\Below w.heap.size w w':=Cd (G.cP b w a g lb st i h hi)
def xa(k:Int)(w:World)(r:Bool)(V:r=decide (11<=k/\k<=13)):E 55 #[J k] w λe w'=>e= returned (.bool r)/\w=w':=by
 have h:=qh V;clear V;by_cases h1:11<=k;.go_enter func55,ntmps55;go_wp2;go_ret;exact⟨aA (by rw[h.o];by_cases e:k<=13<;>simp[e];omega),rfl⟩
 .have t1:decide (k >= 11)=false:=decide_eq_false ahE;go_enter func55,ntmps55;go_wp2;go_ret;exact⟨aA (by rw[h.o];symm;exact decide_eq_false ahE),rfl⟩
def vm(rd:Bool)(p:Sp):Bool:=!decide (p.pc=0)&&rdB rd p
def AB(a b c d:Int)(w:World):(Instr.field 113 (agg #[J a,J b,J c,J d]) 1).run prog w= .ok (J b) w:=by kernel_rfl
theorem FP{rd:Bool}{k:Int}(O:w.cell? lb=some (J k))(LV:rd=decide (11<=k/\k<=13))(h:∀W,Below w.heap.size w W->E 57 #[lkP lb,J i] W λe w'=>e= returned (aF p)/\Below W.heap.size W w'):E 17 #[lkP lb,J i] w λe w'=>e= returned (bool (vm rd p))/\Below w.heap.size w w':=by
  have KE:=AB;have KD:=aT O;have H:=qh (Cd (h w (Below.refl _ _)));have HP:=qh h;have V:Kq (∀W,Below w.heap.size w W->W.cell? lb=some (J k)):=qh λW t=>by rw[(aa.of_below (S:=[]) t).cellC KD ahF];exact O
  have Y:=qh (λW=>xa k W rd LV);clear h O LV KD;obtain⟨pc,u,v,z⟩:=p;unfold aF at HP;unfold vm rdB;unfold lkP at *;simp only at H ⊢;by_cases I:pc=0;. subst I;go_enter func17,ntmps17;go_wp2_with fail;refine Op H.o λw1 B1=>?_;rw[show jl 0=0 from rfl];go_wp2;go_ret;exact⟨rfl,B1.o⟩
  . have e0:jl pc≠0:=(by unfold jl;rw[if_neg I];split;decide;split<;>decide);obtain⟨s,hs⟩:=LE (jl pc);rw[<-hs]at H e0;have t0:(s !=0)=true:=(by simpa using e0);have HZ:=qh (show decide (pc=0)=false from decide_eq_false I);clear hs e0 I;cases rd;. go_enter func17,ntmps17;go_wp2_with fail;refine Op H.o λw1 b1=>?_;have c0:=V.o _ b1.o;have B1:=qh b1.o;go_wp2_with fail;refine LT (Y.o _) ?_;go_wp2;go_ret;exact⟨aA ahF,B1.o⟩
    . go_enter func17,ntmps17;go_wp2_with fail;refine Op H.o λw1 b1=>?_;have c0:=V.o _ b1.o;have B1:=qh b1.o;go_wp2_with fail;refine LT (Y.o _) ?_;go_wp2_with fail;refine Op (HP.o _ B1.o) λw3 b3=>?_;have B3:=qh (B1.o.trans (b3.o.mono B1.o.size));clear c0;go_wp2;go_ret;exact⟨aA (by rw[HZ.o];by_cases e:u=1<;>simp[e]),B3.o⟩
def FO(G:M.Good)(h:M.is b w a g lb st)(i:Nat)(hi:i<n):E 17 #[lkP lb,J i] w λe w'=>e= returned (bool (vm M.rd (M.sp st i)))/\Below w.heap.size w w':=by obtain⟨k,I,H⟩:=G.kd b w a g lb st h;exact FP I H λW t=>G.cP b W a g lb st i (G.far b w a g lb st W [] h (aa.of_below t) ahF) hi
end
end
section
open Go Go.RowKit
def evV(e:Ev):Value:= agg #[J e.kind,J e.thread,.bool e.read,J e.count]
def Blk.set4{g:Nat}{a b c d H b' I d':Value}(h:Blk w g t #[a,b,c,d]):Blk ((((w.setCell ⟨g,0,none⟩ H).setCell ⟨g,1,none⟩ b').setCell ⟨g,2,none⟩ I).setCell ⟨g,3,none⟩ d') g t #[H,b',I,d']:=
 (((h.set_ 0 H).set_ 1 b').set_ 2 I).set_ 3 d'
def aa.set4{w0:World}(h:aa S w0 w)(I:w0.heap.size<=H)(p q r s:Value):aa S w0 ((((w.setCell ⟨H,0,none⟩ p).setCell ⟨H,1,none⟩ q).setCell ⟨H,2,none⟩ r).setCell ⟨H,3,none⟩ s):=
 (((h.setCell (.inr I) p).setCell (.inr I) q).setCell (.inr I) r).setCell (.inr I) s
section
variable{M:LkM n}
def LkM.stt(M:LkM n)(st:M.σ)(i:Nat):Int:=jl (M.sp st i).pc
def LkM.rds(M:LkM n)(st:M.σ)(i:Nat):Bool:=vm M.rd (M.sp st i)
def LkM.stepE(M:LkM n)(st:M.σ)(i:Nat):Ev×M.σ:=
 if M.stt st i=1 then(if dg (M.sp st i) (M.sp (M.step st i) i)then⟨2,i,M.rds st i,M.cn (M.step st i) i⟩else⟨0,i,M.rds st i,0⟩,M.step st i)
 else if M.stt st i=3 then(⟨if dg (M.sp st i) (M.sp (M.step st i) i)then 4 else 0,i,M.rds st i,0⟩,M.step st i)
 else(⟨0,i,M.rds st i,0⟩,st)
def LkM.askE(M:LkM n)(st:M.σ)(i:Nat)(r:Bool):Ev×M.σ:=
 if (r&&!M.rd)=true then(⟨5,i,M.rds st i,0⟩,st)else(if decide ((M.sp st i).pc=0/\(r=true->M.rd=true))then⟨1,i,r,0⟩else⟨5,i,M.rds st i,0⟩,M.ask st i r)
def LkM.leaveE(M:LkM n)(st:M.σ)(i:Nat)(r:Bool):Ev×M.σ:=
 if (M.rds st i !=r)=true then(⟨5,i,M.rds st i,0⟩,st)else(if decide ((M.sp st i).pc=10)then⟨3,i,r,0⟩else⟨5,i,M.rds st i,0⟩,M.leave st i)
def LkM.pick(M:LkM n)(st:M.σ)(p:Int×Int):Ev×M.σ:=
 if 0<=p.1/\p.1<n then
  (if p.2=0 then M.stepE st p.1.toNat else if p.2=1\/p.2=3 then M.askE st p.1.toNat (decide (p.2=3))else if p.2=2\/p.2=4 then M.leaveE st p.1.toNat (decide (p.2=4))
  else(⟨5,p.1,M.rds st p.1.toNat,0⟩,st))
 else(⟨0,0,false,0⟩,st)
def LkM.Good.pick(G:M.Good){st:M.σ}(h:M.ok st N)(hN:N<lkB)(p:Int×Int):M.ok (M.pick st p).2 (N+1)/\(M.ar (M.pick st p).2).ops<=(M.ar st).ops+1/\((M.pick st p).1.kind=5\/¬(0<=p.1/\p.1<n)->M.ar (M.pick st p).2=M.ar st):=by
 have hm:=G.okm _ _ h;have nil:M.ok st (N+1)/\(M.ar st).ops<=(M.ar st).ops+1:=⟨hm,by omega⟩;unfold LkM.pick;by_cases hi:0<=p.1/\p.1<n
 .rw[if_pos hi];have H:p.1.toNat<n:=by omega
  have hS:=And.intro (G.okS _ _ _ h hN H) (G.opsS _ _ _ h hN H);have I:=λr=>And.intro (G.okA _ _ _ r h hN H) (G.arA st p.1.toNat r);have O:=And.intro (G.okL _ _ _ h hN H) (G.arL st p.1.toNat);split
  .unfold LkM.stepE;split;.exact aab
   .split;.exact aab
    .exact aac
  .split
   .unfold LkM.askE;split;.exact aac
    .exact⟨(I _).1,by rw[(I _).2];omega,λ_=>(I _).2⟩
   .split
    .unfold LkM.leaveE;split;.exact aac
     .exact⟨O.1,by rw[O.2];omega,λ_=>O.2⟩
    .exact aac
 .rw[if_neg hi];exact aac
end
structure WoB{n:Nat}(M:LkM n) where
 b:M.β
 a:Nat
 g:Nat
 wb:Nat
 lb:Nat
 tb:Nat
 hi:Nat
structure WoIs{n:Nat}{M:LkM n}(X:WoB M)(w:World)(st:M.σ):Prop where
 is:M.is X.b w X.a X.g X.lb st
 wd:Blk w X.wb 121 #[↑X.a,↑X.tb,lkP X.lb,.bool M.rd]
 nf:X.wb∉M.fp X.b
 hw:M.hi X.b<=X.hi/\X.wb<X.hi/\X.hi<=w.heap.size
section
variable{M:LkM n}{X:WoB M}{st st':M.σ}
def WoIs.far(G:M.Good)(h:WoIs X w st)(t:aa S w w')(H:∀x∈S,X.hi<=x):WoIs X w' st:=
 ⟨G.far _ _ _ _ _ _ _ _ h.is t (λx I=> .inl (Nat.le_trans h.hw.1 (H x I))),t.blk h.wd (λm=>by have:=H _ m;have:=h.hw;omega),h.nf,⟨h.hw.1,h.hw.2.1,Nat.le_trans h.hw.2.2 t.size⟩⟩
def WoIs.below(G:M.Good)(h:WoIs X w st)(b:Below w.heap.size w w'):WoIs X w' st:=h.far G (aa.of_below (S:=[]) b) ahF
def WoIs.act(h:WoIs X w st)(t:aa (M.fp X.b) w w')(k:M.is X.b w' X.a X.g X.lb st'):WoIs X w' st':=
 ⟨k,t.blk h.wd h.nf,h.nf,⟨h.hw.1,h.hw.2.1,Nat.le_trans h.hw.2.2 t.size⟩⟩
def WoIs.lo(G:M.Good)(h:WoIs X w st):∀r∈M.fp X.b,r<X.hi:=λr V=>Nat.lt_of_lt_of_le ((G.fpa _ _ _ _ _ _ h.is).1 r V) h.hw.1
def WoIs.set(G:M.Good)(h:WoIs X w st)(O:X.hi<=H)(i:Nat)(u:Value):WoIs X (w.setCell ⟨H,i,none⟩ u) st:=
 h.far G (S:=[H]) ((aa.refl _ _).setCell (.inl ahF) u) (λj I=>by simp at I;omega)
def WoIs.set4(G:M.Good)(h:WoIs X w st)(I:X.hi<=H)(p q r s:Value):WoIs X ((((w.setCell ⟨H,0,none⟩ p).setCell ⟨H,1,none⟩ q).setCell ⟨H,2,none⟩ r).setCell ⟨H,3,none⟩ s) st:=
 (((h.set G I 0 p).set G I 1 q).set G I 2 r).set G I 3 s
def vQ(X:WoB M)(w:World)(st':M.σ)(v:Value)(e:Ending)(w':World):Prop:=
 e= returned v/\WoIs X w' st'/\aa (M.fp X.b) w w'
theorem ru(G:M.Good)(h:WoIs X w st)(i:Nat)(hi:i<n):E 28 #[lkP X.wb,J i] w λe w'=>e= returned (tuple #[J (M.stt st i),bool (M.rds st i)])/\Below w.heap.size w w':=by
  have H:Kq (∀W,Below w.heap.size w W->Z W X.wb 2 ↑X.lb):=qh λW b=>(h.below G b).wd.cell 2;have c2:=H.o _ (Below.refl _ _);have O:=qh (λW (b:Below w.heap.size w W)=>FW G (h.below G b).is i hi);have I:=qh (λW (b:Below w.heap.size w W)=>FO G (h.below G b).is i hi);unfold LkM.stt LkM.rds;obtain⟨z,Y⟩:=LE (jl (M.sp st i).pc);obtain⟨r,V⟩:=LE (vm M.rd (M.sp st i));rw[<-Y]at O ⊢;rw[<-V]at I ⊢;unfold lkP at *;clear h Y V;have K:=qh (show Below w.heap.size w w.drew from(Below.refl _ _).drew);go_enter func28,ntmps28;go_wp2_with fail
  go_region_held3 (λW=>Z W X.wb 2 ↑X.lb)
    (first|with_reducible exact H.o _ K.o)
    (first
      | (go_at_call 16;go_loud (refine Op (O.o _ K.o) λw2 b2=>?_);have K:=qh (K.o.trans (b2.o.mono K.o.size)))
      | (go_at_call 17;go_loud (refine Op (I.o _ K.o) λw3 b3=>?_);have K:=qh (K.o.trans (b3.o.mono K.o.size))))
  all_goals go_wp2;go_ret2;exact⟨rfl,K.o⟩
theorem Cj(G:M.Good)(h:WoIs X w st):E 61 #[lkP X.wb] w λe w'=>e= returned (J n)/\w=w':=by have c2:=h.wd.cell 2;have HT:=qh (tR (G.lk _ _ _ _ _ _ h.is));unfold lkP at *;clear h;go_enter func61,ntmps61;exact aad
theorem Hy(G:M.Good)(h:WoIs X w st):E 23 #[lkP X.wb] w λe w'=>e= returned (J (M.ar st).ops)/\w=w':=by have c2:=h.wd.cell 0;have HT:=qh (zu (G.ais _ _ _ _ _ _ h.is));unfold lkP at *;clear h;go_enter func23,ntmps23;exact aad
end
end
section
open Go Go.RowKit
section
variable{M:LkM n}{X:WoB M}{st st':M.σ}
theorem Io(G:M.Good)(h:WoIs X w st)(hk:M.ok st N)(hN:N<lkB)(i:Nat)(hi:i<n):E 65 #[lkP X.wb,J i] w (vQ X w (M.stepE st i).2 (evV (M.stepE st i).1)):=by
  refine aiY ?_;intro J0 b0 h0 HS Mp H0 HL;have HM:=qh (show X.hi<=w.heap.size from h.hw.2.2);have KQ:=qh (h.lo G);have HG:=qh G;have L6:=qh (λW (k:WoIs X W st)=>G.cS _ _ _ _ _ _ _ i k.is hk hN hi);have Lx:=qh (λW (k:WoIs X W (M.step st i))=>G.cC _ _ _ _ _ _ i k.is hi);unfold LkM.stepE;obtain⟨z,hz⟩:=LE (M.stt st i);obtain⟨rd,LV⟩:=LE (M.rds st i);obtain⟨r,V⟩:=LE (dg (M.sp st i) (M.sp (M.step st i) i));obtain⟨c,hc⟩:=LE (M.cn (M.step st i) i);obtain⟨s2,Jx⟩:=LE (M.step st i);rw[<-hz,<-LV]at HS ⊢;rw[<-V]at L6 ⊢;rw[<-hc]at Lx ⊢;rw[<-Jx]at L6 Lx ⊢;clear h h0 Mp b0 hz LV V hc Jx G hk;unfold lkP at *;by_cases h1:z=1
  . subst h1;rw[if_pos rfl];cases r;. rw[if_neg ahG];go_enter func65,ntmps65;go_wp2_with fail;refine aj2 ?_;intro w1 b1 Ju;rw[J0]at Ju;refine aiT ?_;intro H1 H2 c2;go_wp2_with fail;refine ai3 ?_;intro w3 k3 Kp H3;refine aiU ?_;intro z0 z1 z2 z3 y0 y1 y2 y3;have x0:=H3.o.2.2.1.cell 0;have x1:=H3.o.2.2.1.cell 1;have x2:=H3.o.2.2.1.cell 2;have x3:=H3.o.2.2.1.cell 3;go_wp2;exact bodyPost_ret (results_cell_row ahI _ _ w.heap.size 55 _ (0,0) _ ahI ahP Tryz.underlying55 rfl ahH) rfl ⟨rfl,H3.o.1.set4 HG.o HM.o _ _ _ _,H3.o.2.2.2.set4 (Nat.le_refl _) _ _ _ _⟩
    . rw[if_pos rfl];go_enter func65,ntmps65;go_wp2_with fail;refine aj2 ?_;intro w1 b1 Ju;rw[J0]at Ju;refine aiT ?_;intro H1 H2 c2;go_wp2_with fail;refine ai3 ?_;intro w3 k3 Kp H3;have c3:=HL.o _ _ H3.o.1;go_wp2_with fail;refine Op (Lx.o _ H3.o.1) λw4 I=>?_;have LL:=I.o.size;have H:=qh (And.intro (H3.o.1.below HG.o I.o) (And.intro (H3.o.2.1.below I.o (H3.o.2.1).lt) (And.intro (H3.o.2.2.1.below I.o (H3.o.2.2.1).lt) (H3.o.2.2.2.trans (aa.of_below I.o)))));have O:w.heap.size≠w1.heap.size:=(by omega);have UR:X.hi<=w1.heap.size:=by have:=HM.o;omega
      have H5:=qh (show(WoIs X ((w4.setCell ⟨w1.heap.size,0,none⟩ (J 2)).setCell ⟨w1.heap.size,3,none⟩ (J c)) s2)/\Blk ((w4.setCell ⟨w1.heap.size,0,none⟩ (J 2)).setCell ⟨w1.heap.size,3,none⟩ (J c)) w.heap.size 55 #[J 0,J 0,bool false,J 0]/\Blk ((w4.setCell ⟨w1.heap.size,0,none⟩ (J 2)).setCell ⟨w1.heap.size,3,none⟩ (J c)) w1.heap.size 55 #[J 2,J i,.bool rd,J c]/\aa (M.fp X.b) w ((w4.setCell ⟨w1.heap.size,0,none⟩ (J 2)).setCell ⟨w1.heap.size,3,none⟩ (J c))from
        ⟨(H.o.1.set HG.o UR 0 _).set HG.o UR 3 _,(H.o.2.1.far O _).far O _,(H.o.2.2.1.set_ 0 _).set_ 3 _,(H.o.2.2.2.setCell (.inr aiq) _).setCell (.inr aiq) _⟩)
      have q0:=H.o.2.2.1.free 0;have q3:=H.o.2.2.1.free 3;have Zk:=H.o.2.2.1.cell 0;have ab:=H.o.2.2.1.cell 3;refine ajS ?_;intro z0 z1 z2 z3 y0 y1 y2 y3 x0 x1 x2 x3;go_wp2;exact bodyPost_ret (results_cell_row ahI _ _ w.heap.size 55 _ (0,0) _ ahI (by exact H5.o.2.1.set4) Tryz.underlying55 rfl ahH) rfl ⟨rfl,H5.o.1.set4 HG.o HM.o _ _ _ _,H5.o.2.2.2.set4 (Nat.le_refl _) _ _ _ _⟩
  have u1:(z==1)=false:=by simpa using h1
  rw[if_neg h1];clear h1;by_cases Y:z=3
  . subst Y;clear u1;rw[if_pos rfl];cases r;. rw[if_neg ahG];go_enter func65,ntmps65;go_wp2_with fail;refine aj2 ?_;intro w1 b1 Ju;rw[J0]at Ju;refine aiT ?_;intro H1 H2 c2;go_wp2_with fail;refine ai3 ?_;intro w3 k3 Kp H3;refine aiU ?_;intro z0 z1 z2 z3 y0 y1 y2 y3;have x0:=H3.o.2.2.1.cell 0;have x1:=H3.o.2.2.1.cell 1;have x2:=H3.o.2.2.1.cell 2;have x3:=H3.o.2.2.1.cell 3;go_wp2;exact bodyPost_ret (results_cell_row ahI _ _ w.heap.size 55 _ (0,0) _ ahI ahP Tryz.underlying55 rfl ahH) rfl ⟨rfl,H3.o.1.set4 HG.o HM.o _ _ _ _,H3.o.2.2.2.set4 (Nat.le_refl _) _ _ _ _⟩
    . rw[if_pos rfl];go_enter func65,ntmps65;go_wp2_with fail;refine aj2 ?_;intro w1 b1 Ju;rw[J0]at Ju;refine aiT ?_;intro H1 H2 c2;go_wp2_with fail;refine ai3 ?_;intro w3 k3 Kp H3;have O:w.heap.size≠w1.heap.size:=by omega
      have H5:=qh (show(WoIs X (w3.setCell ⟨w1.heap.size,0,none⟩ (J 4)) s2)/\Blk (w3.setCell ⟨w1.heap.size,0,none⟩ (J 4)) w.heap.size 55 #[J 0,J 0,bool false,J 0]/\Blk (w3.setCell ⟨w1.heap.size,0,none⟩ (J 4)) w1.heap.size 55 #[J 4,J i,.bool rd,J 0]/\aa (M.fp X.b) w (w3.setCell ⟨w1.heap.size,0,none⟩ (J 4))from
        ⟨H3.o.1.set HG.o ahV 0 _,H3.o.2.1.far O _,H3.o.2.2.1.set_ 0 _,H3.o.2.2.2.setCell (.inr aiq) _⟩)
      have q0:=H3.o.2.2.1.free 0;have Zk:=H3.o.2.2.1.cell 0;refine ajS ?_;intro z0 z1 z2 z3 y0 y1 y2 y3 x0 x1 x2 x3;go_wp2;exact bodyPost_ret (results_cell_row ahI _ _ w.heap.size 55 _ (0,0) _ ahI (by exact H5.o.2.1.set4) Tryz.underlying55 rfl ahH) rfl ⟨rfl,H5.o.1.set4 HG.o HM.o _ _ _ _,H5.o.2.2.2.set4 (Nat.le_refl _) _ _ _ _⟩
  have u3:(z==3)=false:=by simpa using Y
  rw[if_neg Y];clear Y;go_enter func65,ntmps65;go_wp2_with fail;refine aj2 ?_;intro w1 b1 Ju;rw[J0]at Ju;refine aiT ?_;intro H1 H2 c2;have z0:=H2.o.2.1.free 0;have z1:=H2.o.2.1.free 1;have z2:=H2.o.2.1.free 2;have z3:=H2.o.2.1.free 3;have y0:=H2.o.2.1.cell 0;have y1:=H2.o.2.1.cell 1;have y2:=H2.o.2.1.cell 2;have y3:=H2.o.2.1.cell 3;have x0:=H2.o.2.2.1.cell 0;have x1:=H2.o.2.2.1.cell 1;have x2:=H2.o.2.2.1.cell 2;have x3:=H2.o.2.2.1.cell 3;go_wp2;exact bodyPost_ret (results_cell_row ahI _ _ w.heap.size 55 _ (0,0) _ ahI (by exact H2.o.2.1.set4) Tryz.underlying55 rfl ahH) rfl ⟨rfl,H2.o.1.set4 HG.o HM.o _ _ _ _,H2.o.2.2.2.set4 (Nat.le_refl _) _ _ _ _⟩
end
end
section
open Go Go.RowKit
section
variable{M:LkM n}{X:WoB M}{st st':M.σ}
theorem Gi(G:M.Good)(h:WoIs X w st)(Y:M.ok st N)(hN:N<lkB)(i:Nat)(hi:i<n)(r:Bool):E 66 #[lkP X.wb,J i,.bool r] w (vQ X w (M.askE st i r).2 (evV (M.askE st i r).1)):=by
  refine aiY ?_;intro J0 b0 h0 HS Mp H0 HL;refine aki ?_;intro M1 HM KQ HG;have HA:=qh (λW (k:WoIs X W st)=>G.cA _ _ _ _ _ _ _ i r k.is Y hN hi);unfold LkM.askE;obtain⟨z,hz⟩:=LE (M.stt st i);obtain⟨rs,O⟩:=LE (M.rds st i);rw[<-hz,<-O]at HS;rw[<-O];clear h h0 Mp b0 hz O G Y;obtain⟨q,V⟩:=LE (decide ((M.sp st i).pc=0/\(r=true->M.rd=true)));obtain⟨rd,I⟩:=LE M.rd;obtain⟨s2,H⟩:=LE (M.ask st i r);rw[<-V,<-H]at HA;rw[<-V,<-H,<-I];rw[<-I]at M1;clear V I H;unfold lkP at *;cases r
  . rw[if_neg ahF];cases q;. rw[if_neg ahG];go_enter func66,ntmps66;go_wp2_with fail;refine aj2 ?_;intro w1 b1 Ju;rw[J0]at Ju;refine ai0 ?_;intro H1 c2 c3;go_wp2_with fail;refine ai2 ?_;intro w3 k3 H3;refine aiU ?_;intro z0 z1 z2 z3 y0 y1 y2 y3;go_wp2;exact bodyPost_ret (results_cell_row ahI _ _ w.heap.size 55 _ (0,0) _ ahI ahP Tryz.underlying55 rfl ahH) rfl ⟨rfl,H3.o.1.set4 HG.o HM.o _ _ _ _,H3.o.2.2.set4 (Nat.le_refl _) _ _ _ _⟩
    . rw[if_pos rfl];go_enter func66,ntmps66;go_wp2_with fail;refine aj2 ?_;intro w1 b1 Ju;rw[J0]at Ju;refine ai0 ?_;intro H1 c2 c3;go_wp2_with fail;refine ai2 ?_;intro w3 k3 H3;refine aiU ?_;intro z0 z1 z2 z3 y0 y1 y2 y3;go_wp2;exact bodyPost_ret (results_cell_row ahI _ _ w.heap.size 55 _ (0,0) _ ahI ahP Tryz.underlying55 rfl ahH) rfl ⟨rfl,H3.o.1.set4 HG.o HM.o _ _ _ _,H3.o.2.2.set4 (Nat.le_refl _) _ _ _ _⟩
  . cases rd;. rw[if_pos ahI];go_enter func66,ntmps66;go_wp2_with fail;refine aj2 ?_;intro w1 b1 Ju;rw[J0]at Ju;refine ai0 ?_;intro H1 c2 c3;have z0:=H1.o.2.1.free 0;have z1:=H1.o.2.1.free 1;have z2:=H1.o.2.1.free 2;have z3:=H1.o.2.1.free 3;have y0:=H1.o.2.1.cell 0;have y1:=H1.o.2.1.cell 1;have y2:=H1.o.2.1.cell 2;have y3:=H1.o.2.1.cell 3;go_wp2;exact bodyPost_ret (results_cell_row ahI _ _ w.heap.size 55 _ (0,0) _ ahI (by exact H1.o.2.1.set4) Tryz.underlying55 rfl ahH) rfl ⟨rfl,H1.o.1.set4 HG.o HM.o _ _ _ _,H1.o.2.2.set4 (Nat.le_refl _) _ _ _ _⟩
    . rw[if_neg ahF];cases q;. rw[if_neg ahG];go_enter func66,ntmps66;go_wp2_with fail;refine aj2 ?_;intro w1 b1 Ju;rw[J0]at Ju;refine ai0 ?_;intro H1 c2 c3;go_wp2_with fail;refine ai2 ?_;intro w3 k3 H3;refine aiU ?_;intro z0 z1 z2 z3 y0 y1 y2 y3;go_wp2;exact bodyPost_ret (results_cell_row ahI _ _ w.heap.size 55 _ (0,0) _ ahI ahP Tryz.underlying55 rfl ahH) rfl ⟨rfl,H3.o.1.set4 HG.o HM.o _ _ _ _,H3.o.2.2.set4 (Nat.le_refl _) _ _ _ _⟩
      . rw[if_pos rfl];go_enter func66,ntmps66;go_wp2_with fail;refine aj2 ?_;intro w1 b1 Ju;rw[J0]at Ju;refine ai0 ?_;intro H1 c2 c3;go_wp2_with fail;refine ai2 ?_;intro w3 k3 H3;refine aiU ?_;intro z0 z1 z2 z3 y0 y1 y2 y3;go_wp2;exact bodyPost_ret (results_cell_row ahI _ _ w.heap.size 55 _ (0,0) _ ahI ahP Tryz.underlying55 rfl ahH) rfl ⟨rfl,H3.o.1.set4 HG.o HM.o _ _ _ _,H3.o.2.2.set4 (Nat.le_refl _) _ _ _ _⟩
theorem Du(G:M.Good)(h:WoIs X w st)(V:M.ok st N)(hN:N<lkB)(i:Nat)(hi:i<n)(r:Bool):E 67 #[lkP X.wb,J i,.bool r] w (vQ X w (M.leaveE st i r).2 (evV (M.leaveE st i r).1)):=by
  refine aiY ?_;intro J0 b0 h0 HS Mp H0 HL;refine aki ?_;intro M1 HM KQ HG;have HA:=qh (λW (k:WoIs X W st)=>G.cL _ _ _ _ _ _ _ i k.is V hN hi);unfold LkM.leaveE;obtain⟨z,Y⟩:=LE (M.stt st i);obtain⟨rs,I⟩:=LE (M.rds st i);rw[<-Y,<-I]at HS;rw[<-I];clear h h0 Mp b0 Y I G V;obtain⟨q,O⟩:=LE (decide ((M.sp st i).pc=10));obtain⟨s2,H⟩:=LE (M.leave st i);rw[<-O,<-H]at HA;rw[<-O,<-H];clear O H;unfold lkP at *;by_cases hd:rs=r
  . subst hd;rw[if_neg ahF];cases q;. rw[if_neg ahG];go_enter func67,ntmps67;go_wp2_with fail;refine aj2 ?_;intro w1 b1 Ju;rw[J0]at Ju;refine ai0 ?_;intro H1 c2 c3;go_wp2_with fail;refine ai2 ?_;intro w3 k3 H3;refine aiU ?_;intro z0 z1 z2 z3 y0 y1 y2 y3;go_wp2;exact bodyPost_ret (results_cell_row ahI _ _ w.heap.size 55 _ (0,0) _ ahI ahP Tryz.underlying55 rfl ahH) rfl ⟨rfl,H3.o.1.set4 HG.o HM.o _ _ _ _,H3.o.2.2.set4 (Nat.le_refl _) _ _ _ _⟩
    . rw[if_pos rfl];go_enter func67,ntmps67;go_wp2_with fail;refine aj2 ?_;intro w1 b1 Ju;rw[J0]at Ju;refine ai0 ?_;intro H1 c2 c3;go_wp2_with fail;refine ai2 ?_;intro w3 k3 H3;refine aiU ?_;intro z0 z1 z2 z3 y0 y1 y2 y3;go_wp2;exact bodyPost_ret (results_cell_row ahI _ _ w.heap.size 55 _ (0,0) _ ahI ahP Tryz.underlying55 rfl ahH) rfl ⟨rfl,H3.o.1.set4 HG.o HM.o _ _ _ _,H3.o.2.2.set4 (Nat.le_refl _) _ _ _ _⟩
  . obtain rfl:rs=!r:=by cases rs<;>cases r<;>simp_all
    rw[if_pos ahF];clear hd;go_enter func67,ntmps67;go_wp2_with fail;refine aj2 ?_;intro w1 b1 Ju;rw[J0]at Ju;refine ai0 ?_;intro H1 c2 c3;have z0:=H1.o.2.1.free 0;have z1:=H1.o.2.1.free 1;have z2:=H1.o.2.1.free 2;have z3:=H1.o.2.1.free 3;have y0:=H1.o.2.1.cell 0;have y1:=H1.o.2.1.cell 1;have y2:=H1.o.2.1.cell 2;have y3:=H1.o.2.1.cell 3;go_wp2;exact bodyPost_ret (results_cell_row ahI _ _ w.heap.size 55 _ (0,0) _ ahI (by exact H1.o.2.1.set4) Tryz.underlying55 rfl ahH) rfl ⟨rfl,H1.o.1.set4 HG.o HM.o _ _ _ _,H1.o.2.2.set4 (Nat.le_refl _) _ _ _ _⟩
end
end
section
open Go Go.RowKit
section
variable{M:LkM n}{X:WoB M}{st st':M.σ}
theorem doW(G:M.Good)(h:WoIs X w st)(hk:M.ok st N)(hN:N<lkB)(p:Int×Int):E 25 #[lkP X.wb,agg #[J p.1,J p.2]] w (vQ X w (M.pick st p).2 (evV (M.pick st p).1)):=by
  obtain⟨t,k⟩:=p;have bA:=((Below.refl w.heap.size w).alloc (Nat.le_refl _) (cells #[J t,J k] 58)).alloc ahF (cells #[J 0,J 0,bool false,J 0] 55);have h0:=h.below G bA;have PS:=(Blk.new w 58 #[J t,J k]).alloc (cells #[J 0,J 0,bool false,J 0] 55);have Mp:=Blk.new' (w.alloc (cells #[J t,J k] 58)) 55 #[J 0,J 0,bool false,J 0] (g:=w.heap.size+1) ahF;have PY:aa (M.fp X.b) w ((w.alloc (cells #[J t,J k] 58)).alloc (cells #[J 0,J 0,bool false,J 0] 55)):=((aa.refl _ _).alloc _).alloc _;have KQ:=qh (h.lo G);have HM:=qh (show X.hi<=w.heap.size from h.hw.2.2);obtain⟨w0,C'⟩:=LE (((w.alloc (cells #[J t,J k] 58)).alloc (cells #[J 0,J 0,bool false,J 0] 55)));rw[<-C']at h0 PS Mp PY;have VY:w0.heap.size=w.heap.size+2:=by rw[C'];simp
  have hD:∀m,WoIs X (w0.drewN m) st:=λm=>h0.below G (Qt.below (⟨m,rfl⟩:Qt w0 (w0.drewN m)) w0.heap.size);have HT:=qh (λm=>Cj G (hD m));have L6:=qh (λm i hi=>ru G (hD m) i hi);have F':=qh (λm i hi=>Io G (hD m) hk hN i hi);have Y:=qh (λm i hi r=>Gi G (hD m) hk hN i hi r);have V:=qh (λm i hi r=>Du G (hD m) hk hN i hi r);have O:=qh (λm=>And.intro (hD m) (And.intro (PS.drewN m) (And.intro (Mp.drewN m) (PY.drewN m))));have c0:w0.cell? w.heap.size=some (J t):=PS.cell 0;have c1:Z w0 w.heap.size 1 (J k):=PS.cell 1;have Kh:=qh C';have HG:=qh G;unfold LkM.pick evV;clear h h0 PS Mp PY hD C' G hk bA;simp only;by_cases hi:0<=t/\t<n
  . obtain⟨i,rfl⟩:=Int.eq_ofNat_of_zero_le hi.1;have I:i<n:=(by omega);rw[if_pos hi];simp only[Int.toNat_natCast];unfold lkP at *;have t1:decide ((i:Int)<0)=false:=decide_eq_false ahE;have t2:decide ((i:Int) >= (n:Int))=false:=decide_eq_false ahE;clear hi;by_cases k0:k=0;. subst k0;rw[if_pos rfl];replace F':=qh (λm=>F'.o m i I);obtain⟨x,H⟩:=LE (M.stepE st i);rw[<-H]at F' ⊢;clear H;obtain⟨⟨x1,x2,x3,x4⟩,s2⟩:=x;unfold evV at F';go_enter func25,ntmps25;go_wp2_with fail;rw[<-Kh.o];go_quiet ((go_at_call 61;exact bG (HT.o _)));go_wp2_with fail;refine Op (F'.o _) λw3 k3=>?_;have hB:=O.o nq;refine aje ?_;intro H3;clear hB;refine aiU ?_;intro z0 z1 z2 z3 y0 y1 y2 y3;go_wp2;exact bodyPost_ret (results_cell_row ahI _ _ (w.heap.size+1) 55 _ (0,0) _ ahI ahP Tryz.underlying55 rfl ahH) rfl ⟨rfl,H3.o.1.set4 HG.o ahV _ _ _ _,H3.o.2.2.set4 ahE _ _ _ _⟩
    by_cases k1:k=1;. subst k1;rw[if_neg ahG,if_pos ahG,show decide ((1:Int)=3)=false from rfl];replace Y:=qh (λm=>Y.o m i I false);obtain⟨x,H⟩:=LE (M.askE st i false);rw[<-H]at Y ⊢;clear H;obtain⟨⟨x1,x2,x3,x4⟩,s2⟩:=x;unfold evV at Y;go_enter func25,ntmps25;go_wp2_with fail;rw[<-Kh.o];go_quiet ((go_at_call 61;exact bG (HT.o _)));go_wp2_with fail;refine Op (Y.o _) λw3 k3=>?_;have hB:=O.o nq;refine aje ?_;intro H3;clear hB;refine aiU ?_;intro z0 z1 z2 z3 y0 y1 y2 y3;go_wp2;exact bodyPost_ret (results_cell_row ahI _ _ (w.heap.size+1) 55 _ (0,0) _ ahI ahP Tryz.underlying55 rfl ahH) rfl ⟨rfl,H3.o.1.set4 HG.o ahV _ _ _ _,H3.o.2.2.set4 ahE _ _ _ _⟩
    by_cases k3:k=3;. subst k3;rw[if_neg ahG,if_pos ahG,show decide ((3:Int)=3)=true from rfl];replace Y:=qh (λm=>Y.o m i I true);obtain⟨x,H⟩:=LE (M.askE st i true);rw[<-H]at Y ⊢;clear H;obtain⟨⟨x1,x2,x3,x4⟩,s2⟩:=x;unfold evV at Y;go_enter func25,ntmps25;go_wp2_with fail;rw[<-Kh.o];go_quiet ((go_at_call 61;exact bG (HT.o _)));go_wp2_with fail;refine Op (Y.o _) λw3 k3=>?_;have hB:=O.o nq;refine aje ?_;intro H3;clear hB;refine aiU ?_;intro z0 z1 z2 z3 y0 y1 y2 y3;go_wp2;exact bodyPost_ret (results_cell_row ahI _ _ (w.heap.size+1) 55 _ (0,0) _ ahI ahP Tryz.underlying55 rfl ahH) rfl ⟨rfl,H3.o.1.set4 HG.o ahV _ _ _ _,H3.o.2.2.set4 ahE _ _ _ _⟩
    by_cases k2:k=2;. subst k2;rw[if_neg ahG,if_neg ahG,if_pos ahG,show decide ((2:Int)=4)=false from rfl];replace V:=qh (λm=>V.o m i I false);obtain⟨x,H⟩:=LE (M.leaveE st i false);rw[<-H]at V ⊢;clear H;obtain⟨⟨x1,x2,x3,x4⟩,s2⟩:=x;unfold evV at V;go_enter func25,ntmps25;go_wp2_with fail;rw[<-Kh.o];go_quiet ((go_at_call 61;exact bG (HT.o _)));go_wp2_with fail;refine Op (V.o _) λw3 k3=>?_;have hB:=O.o nq;refine aje ?_;intro H3;clear hB;refine aiU ?_;intro z0 z1 z2 z3 y0 y1 y2 y3;go_wp2;exact bodyPost_ret (results_cell_row ahI _ _ (w.heap.size+1) 55 _ (0,0) _ ahI ahP Tryz.underlying55 rfl ahH) rfl ⟨rfl,H3.o.1.set4 HG.o ahV _ _ _ _,H3.o.2.2.set4 ahE _ _ _ _⟩
    by_cases k4:k=4;. subst k4;rw[if_neg ahG,if_neg ahG,if_pos ahG,show decide ((4:Int)=4)=true from rfl];replace V:=qh (λm=>V.o m i I true);obtain⟨x,H⟩:=LE (M.leaveE st i true);rw[<-H]at V ⊢;clear H;obtain⟨⟨x1,x2,x3,x4⟩,s2⟩:=x;unfold evV at V;go_enter func25,ntmps25;go_wp2_with fail;rw[<-Kh.o];go_quiet ((go_at_call 61;exact bG (HT.o _)));go_wp2_with fail;refine Op (V.o _) λw3 k3=>?_;have hB:=O.o nq;refine aje ?_;intro H3;clear hB;refine aiU ?_;intro z0 z1 z2 z3 y0 y1 y2 y3;go_wp2;exact bodyPost_ret (results_cell_row ahI _ _ (w.heap.size+1) 55 _ (0,0) _ ahI ahP Tryz.underlying55 rfl ahH) rfl ⟨rfl,H3.o.1.set4 HG.o ahV _ _ _ _,H3.o.2.2.set4 ahE _ _ _ _⟩
    have u0:(k==0)=false:=(by simpa using k0);have u1:(k==1)=false:=(by simpa using k1);have u2:(k==2)=false:=(by simpa using k2);have u3:(k==3)=false:=(by simpa using k3);have u4:(k==4)=false:=(by simpa using k4);rw[if_neg k0,if_neg ahE,if_neg ahE];clear k0 k1 k2 k3 k4;replace L6:=qh (λm=>L6.o m i I);obtain⟨z,hz⟩:=LE (M.stt st i);obtain⟨rs,MT⟩:=LE (M.rds st i);rw[<-hz,<-MT]at L6;rw[<-MT];clear hz MT;go_enter func25,ntmps25;go_wp2_with fail;rw[<-Kh.o];go_quiet ((go_at_call 61;exact bG (HT.o _)));go_wp2_with fail;refine Op (L6.o _) λw3 b3=>?_;have hB:=O.o nq;have H3:=qh (And.intro (hB.1.below HG.o b3.o) (And.intro (hB.2.2.1.below b3.o hB.2.2.1.lt) (And.intro (hB.2.2.2.trans (aa.of_below b3.o)) (hB.2.1.below b3.o hB.2.1.lt))));have c0:w3.cell? w.heap.size=some (J i):=H3.o.2.2.2.cell 0;clear hB;replace H3:=qh (And.intro H3.o.1 (And.intro H3.o.2.1 H3.o.2.2.1));refine aiU ?_;intro z0 z1 z2 z3 y0 y1 y2 y3;go_wp2;exact bodyPost_ret (results_cell_row ahI _ _ (w.heap.size+1) 55 _ (0,0) _ ahI ahP Tryz.underlying55 rfl ahH) rfl ⟨rfl,H3.o.1.set4 HG.o ahV _ _ _ _,H3.o.2.2.set4 ahE _ _ _ _⟩
  . rw[if_neg hi];unfold lkP at *;by_cases h0:t<0;. have t1:decide (t<0)=true:=decide_eq_true h0;clear hi h0;go_enter func25,ntmps25;go_wp2_with fail;rw[<-Kh.o];go_quiet (fail);have H3:=qh (show WoIs X (w0.drewN nq) st/\Blk (w0.drewN nq) (w.heap.size+1) 55 #[J 0,J 0,bool false,J 0]/\aa (M.fp X.b) w (w0.drewN nq)from⟨(O.o nq).1,(O.o nq).2.2.1,(O.o nq).2.2.2⟩);refine aiU ?_;intro z0 z1 z2 z3 y0 y1 y2 y3;go_wp2;exact bodyPost_ret (results_cell_row ahI _ _ (w.heap.size+1) 55 _ (0,0) _ ahI ahP Tryz.underlying55 rfl ahH) rfl ⟨rfl,H3.o.1.set4 HG.o ahV _ _ _ _,H3.o.2.2.set4 ahE _ _ _ _⟩
    . have t1:decide (t<0)=false:=decide_eq_false h0;have t2:decide (t >= (n:Int))=true:=decide_eq_true ahE;clear hi h0;go_enter func25,ntmps25;go_wp2_with fail;rw[<-Kh.o];go_quiet ((go_at_call 61;exact bG (HT.o _)));have H3:=qh (show WoIs X (w0.drewN nq) st/\Blk (w0.drewN nq) (w.heap.size+1) 55 #[J 0,J 0,bool false,J 0]/\aa (M.fp X.b) w (w0.drewN nq)from⟨(O.o nq).1,(O.o nq).2.2.1,(O.o nq).2.2.2⟩);refine aiU ?_;intro z0 z1 z2 z3 y0 y1 y2 y3;go_wp2;exact bodyPost_ret (results_cell_row ahI _ _ (w.heap.size+1) 55 _ (0,0) _ ahI ahP Tryz.underlying55 rfl ahH) rfl ⟨rfl,H3.o.1.set4 HG.o ahV _ _ _ _,H3.o.2.2.set4 ahE _ _ _ _⟩
end
end
section
open Go Go.RowKit
def rr{P:Prop}(h:P:=by
    have hs:w.heap.size<w2.heap.size:=by have:=b2.size;simp at this;omega
    have I:Blk w2 w.heap.size 113 #[J 0,J 0,J 0,J 0]:=aa.blk (S:=[]) (aa.of_below b2) (Blk.new w 113 #[J 0,J 0,J 0,J 0]) ahF
    have z0:=I.cell 0
    have z1:=I.cell 1
    have z2:=I.cell 2
    have z3:=I.cell 3
    have f0:=I.free 0
    have f1:=I.free 1
    have f2:=I.free 2
    have f3:=I.free 3
    have H2:=qh (And.intro b2 I)
    clear b2 I
    obtain⟨pc,u,b,z⟩:=p
    unfold aF
    go_wp2
    exact bodyPost_ret (results_cell_row ahI _ _ w.heap.size 113 _ (0,0) _ ahI aiI Tryz.underlying113 rfl ahH) rfl ⟨rfl,((((HB.o.trans (H2.o.1.mono ahF)).setCell (Nat.le_refl _) _).setCell (Nat.le_refl _) _).setCell (Nat.le_refl _) _).setCell (Nat.le_refl _) _⟩):P:=h
end
section
open Go.RowKit
variable{a g:Nat}{s:Ar}
def pC{h:Func}(Y:P.funcs[f]? =some h)(O:(h.name== "runtime.NumGoroutine")=false)(I:h.body.isNone=true)(hn:Extern.findNext h=none)(k:IntKind)(V:Extern.find h=some (Extern.Atomic.swapT (.int k))){a:Addr}{y:Int}(hc:w.cell? a=some (.int k x))(hz:w.frozen? a=false):(callFunc f #[.pointer (some a),.int k y]).run P w= .ok (.value (.int k x)) (w.setCell a (.int k y)):=by
  rw[run_callFunc_extern Y O I hn V]
  change (Sem.run P (do
    let H <-asAddr (.pointer (some a))
    let old <-Extern.Atomic.read (.int k) H
    store H (.int k y) .atomic
    pure old) w).andThen _=_
  simp[Extern.Atomic.read,asAddr,hc,hz,run_store P w a (.int k y) .atomic rfl,Result.andThen]
def Em(w:World)(p:Addr)(x:Int)(hc:w.cell? p=some (J x))(h:p.spot=none):E 113 #[.pointer (some p)] w λe w'=>e= returned (J x)/\w=w':=by obtain⟨b,o,sp⟩:=p;obtain rfl:sp=none:=h;have H:=run_call_load (P:=prog) func157 ahH ahH ahH .i64 ahH hc;clear hc;go_enter func113,ntmps113;go_wp2;go_ret;exact⟨rfl,rfl⟩
def Gj(w:World)(b o:Nat)(x y:Int)(hc:Z w b o (J x))(h:w.frozen? ⟨b,o,none⟩=false):E 273 #[pointer (some ⟨b,o,none⟩),J y] w λe w'=>e= returned (J x)/\w'=w.setCell ⟨b,o,none⟩ (J y):=by have H:=pC (P:=prog) func275 ahH ahH ahH .i64 ahH (y:=y) hc h;go_enter func273,ntmps273;go_wp2;go_ret;exact⟨rfl,rfl⟩
def aB.put(h:aB w a g s)(H:inR s.W x=true)(v:Int):aB (w.setCell ⟨g,x.toNat-1,none⟩ (J v)) a g (wrA s x v)/\aa [a,g] w (w.setCell ⟨g,x.toNat-1,none⟩ (J v)):=by
  have I:=aR.1 H;refine⟨⟨?_,?_,h.ne,?_,h.room,h.ops⟩,(aa.refl _ _).setCell (.inl ahF) _⟩;. have:=h.blk.far (p:=⟨g,x.toNat-1,none⟩) h.ne (J v);have e:gz g (wrA s x v)=gz g s:=(by unfold gz wrA;rw[bI]);rw[e];exact this
  . have:=h.wds.set_ (x.toNat-1) (J v);rw[Ee s ahE]at this;have e:wrA s x v={s with W:=s.W.set (x.toNat-1) v}:=(by unfold wrA stW;rw[if_pos H]);rw[e];exact this
  . show(stW s.W x v).length<=_;rw[bI];exact h.le
def i8(h:aa [a] w w'):aa [a,g] w w':=h.mono ahF
def fg(w:World)(a g:Nat)(s':Ar)(r:Value)(e:Ending)(w':World):Prop:=e= returned r/\aB w' a g s'/\aa [a,g] w w'
def aD(h:aB w a g s)(x:Int)(Y:s.ops+1<=1000000000000):E 173 #[↑a,J x] w (fg w a g (af s x) (J (ldW s.W x))):=by
  have H:=qh h;cases I:inR s.W x;. have e:fg w a g (af s x) (J (ldW s.W x)) (returned (J 0)) w:=⟨by rw[kS I],by unfold af;rw[iU s _ _ _ I];exact h,aa.refl _ _⟩;have HX:=qh I;clear h I;go_enter func173,ntmps173;go_wp2_with fail;refine LT (jZ H.o x HX.o) ?_;go_wp2;go_ret;exact e
  . have HX:=qh I;have O:=qh (jg I);have On:=aR.1 I;have LQ:x.toNat-1<s.W.length:=(by omega);clear h I;go_enter func173,ntmps173;go_wp2_with fail;refine LT (kh H.o x HX.o) ?_;go_wp2_with fail;refine Op (iV H.o 1 x false HX.o Y) λw1 h1=>?_;have hc:=(h1.o.1.word (i:=x.toNat-1) (by rw[dI];exact LQ)).1;rw[dI]at hc;have H1:=qh (And.intro h1.o.1 h1.o.2);go_wp2_with fail;refine LT (Em _ _ _ hc rfl) ?_;clear hc;rw[<-O.o];obtain⟨r,V⟩:=LE (ldW s.W x);rw[<-V];have HR:=qh V;clear V;go_wp2;go_ret;exact⟨by rw[HR.o];rfl,H1.o.1,i8 H1.o.2⟩
def fu(h:aB w a g s)(x v:Int)(Y:s.ops+1<=1000000000000):E 271 #[↑a,J x,J v] w (fg w a g (ch s x v) (J (ldW s.W x))):=by
  have H:=qh h;cases I:inR s.W x;. have e:fg w a g (ch s x v) (J (ldW s.W x)) (returned (J 0)) w:=⟨by rw[kS I],by unfold ch;rw[iU s _ _ _ I,rD s _ _ I];exact h,aa.refl _ _⟩;have HX:=qh I;clear h I;go_enter func271,ntmps271;go_wp2_with fail;refine LT (jZ H.o x HX.o) ?_;go_wp2;go_ret;exact e
  . have HX:=qh I;have HE:=qh (jg I);have On:=aR.1 I;have LQ:x.toNat-1<s.W.length:=(by omega);clear h I;go_enter func271,ntmps271;go_wp2_with fail;refine LT (kh H.o x HX.o) ?_;go_wp2_with fail;refine Op (iV H.o 3 x true HX.o Y) λw1 h1=>?_;have hc:=h1.o.1.word (i:=x.toNat-1) (by rw[dI];exact LQ);rw[dI]at hc;have hp:=h1.o.1.put (x:=x) (by rw[dI];exact HX.o) v;have H1:=qh (And.intro hp h1.o.2);have O:=qh hc;clear hp hc;go_wp2_with fail;refine LT (Gj _ _ _ _ _ O.o.1 O.o.2) ?_;rw[<-HE.o];obtain⟨r,V⟩:=LE (ldW s.W x);rw[<-V];have HR:=qh V;clear V;go_wp2;go_ret;exact⟨by rw[HR.o];rfl,H1.o.1.1,(i8 H1.o.2).trans H1.o.1.2⟩
end
section
open Go.RowKit
def ES(w:World)(b o:Nat)(x y:Int)(hc:Z w b o (J x))(h:w.frozen? ⟨b,o,none⟩=false):E 188 #[pointer (some ⟨b,o,none⟩),J y] w λe w'=>e= returned (tuple #[])/\w'=w.setCell ⟨b,o,none⟩ (J y):=by have H:=run_call_store (P:=prog) func195 ahH ahH ahH ahH (k:= .i64) (y:=y) hc h;go_enter func188,ntmps188;go_wp2;go_end0;exact⟨rfl,rfl⟩
def am{a g:Nat}{s:Ar}(h:aB w a g s)(x v:Int)(Y:s.ops+1<=1000000000000):E 177 #[↑a,J x,J v] w (fg w a g (ae s x v) (tuple #[])):=by
  have H:=qh h;cases I:inR s.W x;. have e:fg w a g (ae s x v) (tuple #[]) (returned (tuple #[])) w:=⟨rfl,by unfold ae;rw[iU s _ _ _ I,rD s _ _ I];exact h,aa.refl _ _⟩;have HX:=qh I;clear h I;go_enter func177,ntmps177;go_wp2_with fail;refine LT (jZ H.o x HX.o) ?_;go_wp2;go_end0;exact e
  . have HX:=qh I;have On:=aR.1 I;have LQ:x.toNat-1<s.W.length:=(by omega);clear h I;go_enter func177,ntmps177;go_wp2_with fail;refine LT (kh H.o x HX.o) ?_;go_wp2_with fail;refine Op (iV H.o 2 x true HX.o Y) λw1 h1=>?_;have hc:=h1.o.1.word (i:=x.toNat-1) (by rw[dI];exact LQ);have V:=h1.o.1.put (x:=x) (by rw[dI];exact HX.o) v;have H1:=qh (And.intro V h1.o.2);have O:=qh hc;clear V hc;go_wp2_with fail;refine LT (ES _ _ _ _ _ O.o.1 O.o.2) ?_;go_wp2;go_end0;exact⟨rfl,H1.o.1.1,(i8 H1.o.2).trans H1.o.1.2⟩
end
section
open Go.RowKit
def zq(w:World)(b o:Nat)(x y:Int)(hc:Z w b o (J x))(h:w.frozen? ⟨b,o,none⟩=false):E 274 #[pointer (some ⟨b,o,none⟩),J x,J y] w λe w'=>e= returned (bool true)/\w'=w.setCell ⟨b,o,none⟩ (J y):=by have H:=run_call_cas_hit (P:=prog) func276 ahH ahH ahH .i64 ahH (y:=y) hc h;go_enter func274,ntmps274;go_wp2;go_ret;exact⟨rfl,rfl⟩
def xu(w:World)(b o:Nat)(x old y:Int)(hc:Z w b o (J x))(H:w.frozen? ⟨b,o,none⟩=false)(h:¬x=old):E 274 #[pointer (some ⟨b,o,none⟩),J old,J y] w λe w'=>e= returned (bool false)/\w=w':=by have I:=run_call_cas_miss (P:=prog) func276 ahH ahH ahH .i64 ahH (o:=old) (y:=y) hc H h;clear h;go_enter func274,ntmps274;go_wp2;go_ret;exact⟨rfl,rfl⟩
def jb{a g:Nat}{s:Ar}(h:aB w a g s)(x old v:Int)(Y:s.ops+1<=1000000000000):E 272 #[↑a,J x,J old,J v] w (fg w a g (dR s x old v) (bool (cG s x old))):=by
  have H:=qh h;cases O:inR s.W x
  . have e:fg w a g (dR s x old v) (bool (cG s x old)) (returned (bool false)) w:=⟨by unfold cG;rw[O];rfl,by
      have I:cG s x old=false:=by unfold cG;rw[O];rfl
      unfold dR;rw[I,iU s 4 x false O];exact h,aa.refl _ _⟩
    have HX:=qh O;clear h O;go_enter func272,ntmps272;go_wp2_with fail;refine LT (jZ H.o x HX.o) ?_;go_wp2;go_ret;exact e
  . have HX:=qh O;have On:=aR.1 O;have LQ:x.toNat-1<s.W.length:=(by omega);have hc:=h.word (i:=x.toNat-1) LQ;rw[<-jg O]at hc;by_cases OZ:ldW s.W x=old;. have I:cG s x old=true:=(by unfold cG;rw[O,OZ];simp);have hp:=h.put O v;have HP:=qh (And.intro hp I);rw[OZ]at hc;have V:=qh hc;clear h O hc hp OZ I;go_enter func272,ntmps272;go_wp2_with fail;refine LT (kh H.o x HX.o) ?_;go_wp2_with fail;refine LT (zq _ _ _ _ _ V.o.1 V.o.2) ?_;have h2:=HP.o.1.1;have t2:=HP.o.1.2;generalize (w.setCell ⟨g,x.toNat-1,none⟩ (J v))=w2 at h2 t2 ⊢;have H2:=qh (And.intro h2 t2);clear h2 t2;go_wp2_with fail;refine Op (iV H2.o.1 4 x true (by unfold inR wrA;rw[bI];exact HX.o) Y) λw3 H3=>?_;go_wp2;go_ret;refine⟨by rw[HP.o.2];rfl,?_,H2.o.2.trans (i8 H3.o.2)⟩;have e:dR s x old v=fy (wrA s x v) 4 x true:=(by unfold dR;rw[HP.o.2,if_pos rfl];unfold fy;rw[if_pos HX.o,if_pos (by unfold inR wrA;rw[bI];exact HX.o)];rfl);rw[e];exact H3.o.1
    . have I:cG s x old=false:=(by unfold cG;rw[O];simpa using OZ);have V:=qh (And.intro hc (And.intro OZ I));clear h O hc OZ I;go_enter func272,ntmps272;go_wp2_with fail;refine LT (kh H.o x HX.o) ?_;go_wp2_with fail;refine LT (xu _ _ _ _ _ _ V.o.1.1 V.o.1.2 V.o.2.1) ?_;go_wp2_with fail;refine Op (iV H.o 4 x false HX.o Y) λw3 H3=>?_;go_wp2;go_ret;refine⟨by rw[V.o.2.2];rfl,?_,i8 H3.o.2⟩;unfold dR;rw[V.o.2.2];exact H3.o.1
end
end Go.Proofs.YtglokdbiggbkjaaGreat
