/- Joined texts. -/
import Derived.WalkKit
import Derived.WalkSpells
import Derived.WalkLawsBesides
import Derived.ProofKit
import Derived.Below
import Derived.Outline
import Derived.Lib.Hide
import Derived.Deep.QuietTactic
import Derived.BigQuiet
import Derived.Deep.Draws
import Derived.Maps.OwnSet
import Derived.Maps.OwnOps
import Derived.Test.YtglokdbiggbkjaaGreatRows
import Derived.OpenShut
import Derived.Deep.Slices
import Derived.Deep.Fields
import Derived.ChangeSame
import Derived.Carry
import GoSem.Core.View
import Derived.RegionCalls
import Derived.StillTailTactics
import Derived.Laws.LoneSync
import Derived.Laws.OwnMore
import Derived.OwnWalk
import Derived.Deep.RegionHeld3
import Derived.Laws.Externs
import Derived.Test.YtglokdbiggbkjaaGreatMgWorldAgain0
set_option linter.unusedVariables false
set_option linter.unusedSimpArgs false
set_option linter.defProp false
set_option maxRecDepth 100000
set_option maxHeartbeats 16000000
open Go.Proofs.Tryz
namespace Go.Proofs.YtglokdbiggbkjaaGreat
open Go.IntKind(i64)
open Go.Value(int bool slice agg tuple pointer)
open Go.Ending(returned)
open Go.Obj(cells)
variable{P:Program}{f NK:Nat->Bool}{B sz base n Ms b0 i N H:Nat}{w w':World}{v:Value}{e t ti:TypeId}{args cs:Array Value}{p:Addr}{xs:List Value}{Nx:Bool}{S T:List Nat}{x:Int}{l:List Int}
section
open Go.RowKit
variable{f:FuncId}
def RdL{α:Type}(w:World)(v:Value)(sz:Nat)(enc:α->List Value)(l:List α):Prop:=
 ∃A cap,v= .slice A l.length cap/\l.length<=cap/\l.length<=140737488355328/\
  (0<l.length->∃b off,A=some ⟨b,off,none⟩/\b<w.heap.size/\∀i x,l[i]? =some x->∀j u,(enc x)[j]? =some u->Z w b (off+i*sz+j) u)
def Qt(w w':World):Prop:=∃n,w'=w.drewN n
def Qt.refl(w:World):Qt w w:=⟨0,rfl⟩
def Qt.trans{a b c:World}(h:Qt a b)(k:Qt b c):Qt a c:=by obtain⟨n,rfl⟩:=h;obtain⟨m,rfl⟩:=k;exact⟨n+m,by rw[World.drewN_drewN]⟩
def cK{a:World}(h:Below B a w)(n:Nat):Below B a (w.drewN n):=⟨h.os,h.tape,h.output,h.size,h.block⟩
def Qt.below(h:Qt w w')(B:Nat):Below B w w':=by obtain⟨n,rfl⟩:=h;exact cK (Below.refl _ _) n
def aM{a:Addr}(h:w.cell? a=some v):a.block<w.heap.size:=World.block_lt_of_cell? w a h
section
variable{α:Type}{enc:α->List Value}{l:List α}
def RdL.keep(h:RdL w v sz enc l)(hs:w.heap.size<=w'.heap.size)(Y:∀p:Addr,p.block<w.heap.size->w'.cell? p=w.cell? p):RdL w' v sz enc l:=by obtain⟨A,cap,h1,H,O,V⟩:=h;refine⟨A,cap,h1,H,O,λhn=>?_⟩;obtain⟨b,off,e,I,hc⟩:=V hn;exact⟨b,off,e,by omega,λi x hx j u hu=>(Y _ I).trans (hc i x hx j u hu)⟩
def RdL.below(h:RdL w v sz enc l)(I:Below B w w')(H:w.heap.size<=B):RdL w' v sz enc l:=
 h.keep I.size λp O=>I.cell ahp
def RdL.drewN(h:RdL w v sz enc l)(n:Nat):RdL (w.drewN n) v sz enc l:=h
def RdL.qt(h:RdL w v sz enc l)(q:Qt w w'):RdL w' v sz enc l:=by obtain⟨n,rfl⟩:=q;exact h
def RdL.alloc(h:RdL w v sz enc l)(o:Obj):RdL (w.alloc o) v sz enc l:=h.keep ahq λp H=>World.cell?_alloc_lt w o p H
def RdL.nil:RdL w (.slice none 0 0) sz enc []:=⟨none,0,rfl,by simp,by simp,by simp⟩
end
def cY{α:Type}(enc:α->List Value)(sz:Nat)(hs:∀x,(enc x).length=sz)(l:List α):∀i x j u,l[i]? =some x->(enc x)[j]? =some u->(l.flatMap enc)[i*sz+j]? =some u:=by
  induction l with
  | nil=>intro i x j u h;simp at h
  | cons a l I=>
    intro i x j u h H;have O:j<sz:=(by have:=(List.getElem?_eq_some_iff.1 H).1;rw[hs]at this;exact this);cases i with
    | zero=>simp at h;subst h;rw[List.flatMap_cons,List.getElem?_append_left (by rw[hs];omega)];simpa using H
    | succ i=>rw[List.flatMap_cons,List.getElem?_append_right (by rw[hs,Nat.succ_mul];omega),hs];have:(i+1)*sz+j-sz=i*sz+j:=(by rw[Nat.succ_mul];omega);rw[this];exact I i x j u (by simpa using h) H
def RdL.of_own{α:Type}{enc:α->List Value}{l:List α}(hs:∀x,(enc x).length=sz)(hn:n=l.length)(O:l.length<=140737488355328)(h:w.ownsRow base e sz v n (l.flatMap enc)):RdL w v sz enc l:=by
  subst hn;rcases h.2 with⟨rfl,Y⟩|⟨g,cap,M2,rfl,I,hg,V,QS,Kf,ht⟩
  . have:l=[]:=List.eq_nil_of_length_eq_zero Y;subst this;exact RdL.nil
  . refine⟨some ⟨g,0,none⟩,cap,rfl,V,O,λ_=>⟨g,0,rfl,(Array.getElem?_eq_some_iff.1 hg).1,?_⟩⟩;intro i x hx j u hu;have hc:=h.cells (g:=g) rfl (i*sz+j) u (cY enc sz hs l i x j u hx hu);have H:(⟨g,0,none⟩:Addr).add (i*sz+j)=⟨g,0+i*sz+j,none⟩:=(by unfold Addr.add;split<;>simp_all);rw[H]at hc;exact hc
def ai{α:Type}{l:List α}{k:Nat}(h:k<l.length):∃x,l[k]? =some x:=⟨l[k],List.getElem?_eq_getElem h⟩
def a7{α:Type}{l:List α}{k:Nat}{x:α}(h:l[k]? =some x):l.take (k+1)=l.take k++[x]:=by rw[List.take_add_one,h];rfl
def bV(h:Calls P f args (w.drewN n) λe w'=>e= returned v/\w.drewN n=w'):Calls P f args (w.drewN n) λe H=>e= returned v/\∃m,H=w.drewN m:=
  h.mono λ_ _ ⟨I,hm⟩=>⟨I,n,hm.symm⟩
def Ct(h:Calls P f args (w.drewN n) λe w'=>e= returned v/\Qt (w.drewN n) w'):Calls P f args (w.drewN n) λe H=>e= returned v/\∃m,H=w.drewN m:=
  h.mono λ_ _ ⟨I,m,hm⟩=>⟨I,n+m,by rw[hm,World.drewN_drewN]⟩
def encI(z:Int):List Value:=[J z]
def jE(z:Int):(encI z).length=1:=rfl
def Blk(w:World)(g:Nat)(t:TypeId)(cs:Array Value):Prop:=w.heap[g]? =some (.cells cs t (0,0))
section
variable{g:Nat}
def Blk.lt(h:Blk w g t cs):g<w.heap.size:=lt_of_block h
def Blk.cell(h:Blk w g t cs)(i:Nat):w.cell? ⟨g,i,none⟩=cs[i]?:=cell_of_row w g i cs t (0,0) h
def Blk.free(h:Blk w g t cs)(i:Nat):w.frozen? ⟨g,i,none⟩=false:=by unfold Blk at h;simp[World.frozen?,h]
def Blk.new(w:World)(t:TypeId)(cs:Array Value):Blk (w.alloc (.cells cs t)) w.heap.size t cs:=heap_alloc_new w _
def Blk.new'(w:World)(t:TypeId)(cs:Array Value){g:Nat}(hg:g=w.heap.size):Blk (w.alloc (.cells cs t)) g t cs:=by subst hg;exact heap_alloc_new w _
def Blk.drewN(h:Blk w g t cs)(n:Nat):Blk (w.drewN n) g t cs:=h
def Blk.drew(h:Blk w g t cs):Blk w.drew g t cs:=h
def Blk.alloc(h:Blk w g t cs)(o:Obj):Blk (w.alloc o) g t cs:=(Below.heap_alloc w o g h.lt).trans h
def Blk.set_(h:Blk w g t cs)(i:Nat)(u:Value):Blk (w.setCell ⟨g,i,none⟩ u) g t (cs.setIfInBounds i u):=by unfold Blk at h ⊢;simp[World.setCell,Array.getElem?_modify,h]
def Blk.far(h:Blk w g t cs)(H:g≠p.block)(u:Value):Blk (w.setCell p u) g t cs:=(Below.heap_setCell w p u g H).trans h
def Blk.below(h:Blk w g t cs)(I:Below B w w')(hg:g<B):Blk w' g t cs:=(I.block g hg).trans h
def Blk.grown{row:Option Nat}(h:Blk w g t cs)(I:w.grownBy w' row)(hg:some g≠row):Blk w' g t cs:=(I.block g h.lt hg).trans h
end
def uX(w:World)(row:Option Nat):w.grownBy w row:=⟨rfl,rfl,rfl,Nat.le_refl _,λ_ _ _=>rfl⟩
def yD{a:World}{g:Nat}(h:a.grownBy w (some g))(o:Nat)(u:Value):a.grownBy (w.setCell ⟨g,o,none⟩ u) (some g):=
 ⟨h.os,h.tape,h.output,by simpa[World.setCell]using h.size,λi hi H=>(Below.heap_setCell w ⟨g,o,none⟩ u i (by
  rintro rfl
  exact H rfl)).trans (h.block i hi H)⟩
def uN{α:Type}{a b:List α}(H:a.length=b.length)(h:a.take a.length=b.take a.length):a=b:=by rw[List.take_length]at h;rw[h,H,List.take_length]
def jv(p:Int×Int):List Value:=[J p.1,J p.2]
def ox(p:Int×Int):(jv p).length=2:=rfl
def az{a b:Bool}(h:a=b):Ending.returned (.bool a)= returned (.bool b):=by rw[h]
def aT{k:IntKind}{a b:Int}(h:a=b):Ending.returned (.int k a)= returned (.int k b):=by rw[h]
def a8(h:w.ownsRow base e sz v n xs):∃A c,v= .slice A n c:=by
 rcases h.2 with⟨rfl,rfl⟩|⟨g,cap,H,rfl,_⟩
 .exact⟨_,_,rfl⟩
 .exact⟨_,_,rfl⟩
def gG(h:w.ownsRow base e sz v n xs)(O:0<n):∃g c,v= slice (some ⟨g,0,none⟩) n c/\base<=g/\g<w.heap.size:=by
  rcases h.2 with⟨rfl,rfl⟩|⟨g,cap,H,rfl,I,hg,_⟩
  . omega
  . exact⟨_,_,rfl,I,(Array.getElem?_eq_some_iff.1 hg).1⟩
end
section
open Go.RowKit Go.Maps
structure Ev where
 kind:Int
 thread:Int
 read:Bool
 count:Int
instance:DecidableEq Ev:=λa b=>decidable_of_iff (a.kind=b.kind/\a.thread=b.thread/\a.read=b.read/\a.count=b.count) (by cases a;cases b;simp)
def encE(e:Ev):List Value:=[J e.kind,J e.thread,.bool e.read,J e.count]
def kU(e:Ev):(encE e).length=4:=rfl
def jD(s:Ev):∀u∈encE s,u.oneCell'=true:=by intro u h;simp[encE]at h;rcases h with rfl|rfl|rfl|rfl<;>rfl
def pN{α:Type}(l:List α)(x:α)(i:Nat):(l++[x])[i]? =if i<l.length then l[i]? else if i=l.length then some x else none:=by
 split;.rw[List.getElem?_append_left ahp]
 .split;.subst i;simp
  .rw[List.getElem?_eq_none];simp;omega
end
section
open Go.RowKit Go.ChangeShapes Go.WideShapes Go.Deep
def k8{α:Type}(Q:Nat->α->Prop):∀n:Nat,(∀i,i<n->∃x,Q i x)->∃l:List α,l.length=n/\∀i x,l[i]? =some x->Q i x
 |0,_=>⟨[],rfl,by intro i x h;simp at h⟩
 |n+1,h=>by
  obtain⟨l,I,V⟩:=k8 Q n (λi hi=>h i ahp);obtain⟨y,Y⟩:=h n ahp;refine⟨l++[y],by simp[I],λi x H=>?_⟩;rw[pN]at H;split at H;.exact V i x H
  .split at H;.rename_i _ O;injection H with H;subst H;rw[O,I];exact Y
   .cases H
section
variable{H:Type}{enc:TypeId×Value->H}
def fO{b off:Nat}(j:Nat):(⟨b,off,none⟩:Addr).add j=⟨b,off+j,none⟩:=by unfold Addr.add;split<;>simp_all
def tR{x:DataW H×List MemPlace}(ht:P.underlying t=some (.slice e))(he:P.underlying e=some (.int .i64))(hc:P.cellsOf e=1)(h:DataW.trod enc P w base NK Nx Ms t [v]=some x):∃A cap O,v= .slice A O.length cap/\O.length<=maxLen/\(O.length<=140737488355328->RdL w v 1 encI O)/\∀z∈O,(Lit.int .i64 z).wf=true:=by
  rcases open_ints ht he hc h with⟨V,_⟩|⟨a,len,cap,O,V,_,hl,hm,hz,_,M9,ad⟩
  . simp at V;subst V;exact⟨none,0,[],rfl,by simp,λ_=>RdL.nil,by simp⟩
  . simp at V;subst V;have Xf:len<=O.length:=(by rw[hz];split<;>omega);refine⟨some a,cap,O.take len,by simp[Xf],by simp;omega,λI=>?_,λz al=>ad z (List.mem_of_mem_take al)⟩;have Y:(O.take len).length=len:=(by simp[Xf]);refine⟨some a,cap,by rw[Y],by omega,I,λhn=>?_⟩;rw[Y]at hn;have h0:=M9 0 ahp;obtain⟨b,off,spot⟩:=a;have hs:spot=none:=(by simpa[Addr.add]using World.cell?_spot h0);subst hs;refine⟨b,off,rfl,World.block_lt_of_cell? w _ (by rw[fO]at h0;exact h0),λi y hy j u hu=>?_⟩;have hi:i<len:=(by have:=(List.getElem?_eq_some_iff.1 hy).1;rw[Y]at this;exact this);have Nt:=M9 i ahp;rw[fO]at Nt;have hj:j=0:=(by have:=(List.getElem?_eq_some_iff.1 hu).1;simp[encI]at this;exact this);subst hj;have OB:O.getD i 0=y:=(by rw[List.getElem?_take,if_pos hi]at hy;rw[List.getD_eq_getElem?_getD,hy];rfl);have ab:u= J y:=(by simpa[encI]using hu.symm);rw[Nat.mul_one,Nat.add_zero,Nt,ab,OB]
def ip{O:Array Field}{cs:List Value}{x:DataW H×List MemPlace}(ht:P.underlying t=some (.slice e))(he:P.underlying e=some (.struct O))(Oq:oneCellFields P O=true)(hC:P.cellsOf e=O.size)(h:DataW.trod enc P w base NK Nx Ms t cs=some x):cs=[.slice none 0 0]\/
    ∃(a:Addr) (len cap:Nat),cs=[.slice (some a) len cap]/\len<=cap/\cap<=maxLen/\
      ∀i,i<len->∀(j:Nat) (f:Field),O[j]? =some f->∃(v:Value) (n:Nat) (y:DataW H×List MemPlace),w.cell? (a.add (i*O.size+j))=some v/\DataW.trod enc P w base NK Nx n f.type [v]=some y:=by
  rcases open_slice ht h with h0|⟨a,len,cap,m,n,D,Pl,Kf,I,hl,hm,Sn,hx,hi⟩
  . exact .inl h0.1
  . refine .inr ⟨a,len,cap,Kf,hl,hm,λi ad j f hj=>?_⟩;have Zw:i<m:=(by rw[Sn];split<;>omega);obtain⟨V,hc,NG⟩:=hi i Zw;rw[hC]at hc;obtain⟨ys,n',Uh,hy,Kw,Qa,hf⟩:=DataW.trod_struct he NG;obtain⟨_,V9,NT⟩:=World.cells?_some hc;obtain⟨Y,hk⟩:=hone_of Oq j f hj;have Nc:j<O.size:=(Array.getElem?_eq_some_iff.1 hj).1;have M9:=NT j Nc;have h1:=hf j f hj;rw[Y,hk]at h1;have ZZ:(V.drop j).take 1=[V[j]' ahp]:=(by rw[List.drop_eq_getElem_cons ahp];rfl);rw[ZZ]at h1;have ab:ys[j]? =some (ys[j]' ahp):=List.getElem?_eq_getElem ahp;refine⟨V[j]' ahp,n',ys[j]' ahp,?_,h1.trans ab⟩;rw[<-Go.Deep.add_add,M9];exact List.getElem?_eq_getElem ahp
def za{r:Reach}{k:IntKind}{x:DataW H×List MemPlace}(ht:P.underlying t=some (.array 4 e))(I:P.underlying e=some (.int k))(hc:P.cellsOf e=1)(hC:P.cellsOf t=4)(O:Value.okWide P w r b0 t v)(h:DataW.trod enc P w base NK Nx Ms t v.cells.toList=some x):∃n0 n1 n2 n3:Int,v= agg #[.int k n0,.int k n1,.int k n2,.int k n3]/\(Lit.int k n0).wf=true/\(Lit.int k n1).wf=true/\(Lit.int k n2).wf=true/\(Lit.int k n3).wf=true:=by
  unfold Value.okWide at O;rw[ht]at O;obtain⟨cs,rfl,Ki,_⟩:=O;rw[hC]at Ki;obtain⟨xs,m,_,_,_,Mc,hg⟩:=DataW.trod_array ht h;obtain⟨l⟩:=cs;match l,Ki with
  | [c0,c1,c2,c3],_=>
    match xs,Mc with
    | [y0,y1,y2,y3],_=>have V:=hg 0 ahp;have Y:=hg 1 ahp;have g2:=hg 2 ahp;have g3:=hg 3 ahp;rw[hc]at V Y g2 g3;simp[Value.cells]at V Y g2 g3;obtain⟨a0,e0,_,w0⟩:=DataW.trod_int I V;obtain⟨a1,e1,_,w1⟩:=DataW.trod_int I Y;obtain⟨a2,e2,_,w2⟩:=DataW.trod_int I g2;obtain⟨a3,e3,_,w3⟩:=DataW.trod_int I g3;simp at e0 e1 e2 e3;subst e0 e1 e2 e3;exact⟨a0,a1,a2,a3,rfl,w0,w1,w2,w3⟩
end
end
section
open Go.RowKit Go.ChangeShapes Go.WideShapes Go.Deep
theorem Tryz.cellsTopo:prog.cellsOf 24=2:=by kernel_rfl
theorem Tryz.cellsInts:prog.cellsOf 22=1:=by kernel_rfl
theorem Tryz.cellsInt:prog.cellsOf 3=1:=by kernel_rfl
section
variable{H:Type}{enc:TypeId×Value->H}
def zb{r:Reach}{x:DataW H×List MemPlace}(O:Value.okWide prog w r b0 24 v)(h:DataW.trod enc prog w base NK Nx Ms 24 v.cells.toList=some x):∃I cP P V Y T,v= agg #[.slice I (List.length (α:=Int) P) cP,.slice V (List.length (α:=Int) T) Y]/\P.length<=maxLen/\T.length<=maxLen/\(P.length<=140737488355328->RdL w (.slice I P.length cP) 1 encI P)/\(T.length<=140737488355328->RdL w (.slice V T.length Y) 1 encI T):=by
  obtain⟨cs,rfl,Ki⟩:=okWide_struct Tryz.underlying24 O;rw[Tryz.cellsTopo]at Ki;obtain⟨xs,m,_,_,_,Mc,hf⟩:=DataW.trod_struct Tryz.underlying24 h;obtain⟨l⟩:=cs;match l,Ki with
  | [c0,c1],_=>
    match xs,Mc with
    | [y0,y1],_=>have g0:=hf 0 _ rfl;have g1:=hf 1 _ rfl;simp[Value.cells,Tryz.cellsInts]at g0 g1;obtain⟨I,cP,P,e0,m0,R0,_⟩:=tR Tryz.underlying22 Tryz.underlying3 Tryz.cellsInt g0;obtain⟨V,Y,T,e1,m1,R1,_⟩:=tR Tryz.underlying22 Tryz.underlying3 Tryz.cellsInt g1;subst e0 e1;exact⟨I,cP,P,V,Y,T,rfl,m0,m1,R0,R1⟩
end
end
section
open Go.RowKit Go.ChangeShapes Go.WideShapes Go.Deep
section
variable{H:Type}{enc:TypeId×Value->H}
def Cl{f0 f1:Field}{x:DataW H×List MemPlace}(ht:P.underlying t=some (.slice e))(he:P.underlying e=some (.struct #[f0,f1]))(Oq:oneCellFields P #[f0,f1]=true)(hC:P.cellsOf e=2)(h0:f0.type=ti)(h1:f1.type=ti)(Nh:P.underlying ti=some (.int .i64))(h:DataW.trod enc P w base NK Nx Ms t [v]=some x):∃A cap l,v= .slice A l.length cap/\l.length<=maxLen/\(l.length<=140737488355328->RdL w v 2 jv l):=by
  rcases ip ht he Oq (by rw[hC];rfl) h with O|⟨a,len,cap,O,hl,hm,hf⟩
  . simp at O;subst O;exact⟨none,0,[],rfl,by simp,λ_=>RdL.nil⟩
  . simp at O;subst O;have YJ:∀i,i<len->∃z:Int×Int,w.cell? (a.add (i*2+0))=some (J z.1)/\w.cell? (a.add (i*2+1))=some (J z.2):=(by intro i hi;obtain⟨v0,n0,y0,c0,r0⟩:=hf i hi 0 f0 rfl;obtain⟨v1,n1,y1,c1,r1⟩:=hf i hi 1 f1 rfl;rw[h0]at r0;rw[h1]at r1;obtain⟨a0,e0,_,w0⟩:=DataW.trod_int Nh r0;obtain⟨a1,e1,_,w1⟩:=DataW.trod_int Nh r1;simp at e0 e1;subst e0 e1;exact⟨(a0,a1),c0,c1⟩);obtain⟨l,Y,hq⟩:=k8 _ len YJ;refine⟨some a,cap,l,by rw[Y],by omega,λI=>?_⟩;refine⟨some a,cap,by rw[Y],by omega,I,λhn=>?_⟩;obtain⟨z0,J5⟩:=ai (show 0<l.length from hn);have hc0:=(hq 0 z0 J5).1;obtain⟨b,off,spot⟩:=a;have hs:spot=none:=(by simpa[Addr.add]using World.cell?_spot hc0);subst hs;refine⟨b,off,rfl,World.block_lt_of_cell? w _ (by rw[fO]at hc0;exact hc0),λi y hy j u V=>?_⟩;have hc:=hq i y hy;simp only[fO,<-Nat.add_assoc]at hc;have hj:j<2:=(by have:=(List.getElem?_eq_some_iff.1 V).1;simpa[jv]using this);obtain rfl|rfl:j=0\/j=1:=by omega
    . rw[hc.1];simpa[jv]using V
    . rw[hc.2];simpa[jv]using V
end
end
section
open Go.RowKit Go.ChangeShapes Go.WideShapes Go.Deep
section
variable{H:Type}{enc:TypeId×Value->H}
def Gh{r:Reach}{Y:TypeId}{f0 f1:Field}{x:DataW H×List MemPlace}(WX:P.underlying Y=some (.array 2 t))(Mt:P.cellsOf t=1)(Zd:P.cellsOf Y=2)(ht:P.underlying t=some (.slice e))(he:P.underlying e=some (.struct #[f0,f1]))(Oq:oneCellFields P #[f0,f1]=true)(hC:P.cellsOf e=2)(h0:f0.type=ti)(h1:f1.type=ti)(Nh:P.underlying ti=some (.int .i64))(O:Value.okWide P w r b0 Y v)(h:DataW.trod enc P w base NK Nx Ms Y v.cells.toList=some x):∃A c l B d k,v= agg #[.slice A l.length c,.slice B k.length d]/\(l.length<=maxLen/\(l.length<=140737488355328->RdL w (.slice A l.length c) 2 jv l)/\(A=none->c=0))/\(k.length<=maxLen/\(k.length<=140737488355328->RdL w (.slice B k.length d) 2 jv k)/\(B=none->d=0)):=by
  unfold Value.okWide at O;rw[WX]at O;obtain⟨cs,rfl,Ki,_⟩:=O;rw[Zd]at Ki;obtain⟨xs,m,_,_,_,Mc,hg⟩:=DataW.trod_array WX h
  have one:∀{c:Value} {y:DataW H×List MemPlace},DataW.trod enc P w base NK Nx m t [c]=some y->∃A n l,c= .slice A l.length n/\(l.length<=maxLen/\(l.length<=140737488355328->RdL w (.slice A l.length n) 2 jv l)/\(A=none->n=0)):=by
    intro c y hy;obtain⟨A,n,l,rfl,hm,V⟩:=Cl ht he Oq hC h0 h1 Nh hy;refine⟨A,n,l,rfl,hm,V,λe0=>?_⟩;subst e0;rcases ip ht he Oq (by rw[hC];rfl) hy with I|⟨a,len,cap,I,_⟩
    . simp at I;exact I.2
    . simp at I
  obtain⟨l⟩:=cs;match l,Ki with
  | [c0,c1],_=>
    match xs,Mc with
    | [y0,y1],_=>have g0:=hg 0 ahp;have g1:=hg 1 ahp;rw[Mt]at g0 g1;simp[Value.cells]at g0 g1;obtain⟨A,c,l,rfl,k0⟩:=one g0;obtain⟨B,d,k,rfl,k1⟩:=one g1;exact⟨A,c,l,B,d,k,rfl,k0,k1⟩
end
end
section
open Go.RowKit
structure aa(S:List Nat)(w w':World):Prop where
 os:w'.os=w.os
 tape:w'.tape=w.tape
 output:w'.output=w.output
 size:w.heap.size<=w'.heap.size
 block:∀i,i<w.heap.size->i∉S->w'.heap[i]? =w.heap[i]?
section
variable{a b c:World}
def aa.refl(S:List Nat)(w:World):aa S w w:=⟨rfl,rfl,rfl,Nat.le_refl _,λ_ _ _=>rfl⟩
def aa.trans(h:aa S a b)(k:aa S b c):aa S a c:=
 ⟨k.os.trans h.os,k.tape.trans h.tape,k.output.trans h.output,Nat.le_trans h.size k.size,λi hi H=>(k.block i (Nat.lt_of_lt_of_le hi h.size) H).trans (h.block i hi H)⟩
def aa.mono(h:aa S a b)(hs:∀i∈S,i∈T):aa T a b:=⟨h.os,h.tape,h.output,h.size,λi hi H=>h.block i hi λk=>H (hs i k)⟩
def aa.fresh(h:aa S a b)(hs:∀i∈S,i∈T\/a.heap.size<=i):aa T a b:=
 ⟨h.os,h.tape,h.output,h.size,λi hi H=>h.block i hi λk=>(hs i k).elim H λh=>by omega⟩
def aa.alloc(h:aa S a w)(o:Obj):aa S a (w.alloc o):=
 ⟨h.os,h.tape,h.output,Nat.le_trans h.size ahq,λi hi H=>(Below.heap_alloc w o i (Nat.lt_of_lt_of_le hi h.size)).trans (h.block i hi H)⟩
def aa.setCell(h:aa S a w)(H:p.block∈S\/a.heap.size<=p.block)(u:Value):aa S a (w.setCell p u):=
 ⟨h.os,h.tape,h.output,by simpa[World.setCell]using h.size,λi hi I=>(Below.heap_setCell w p u i (by
  rintro rfl
  rcases H with H|H
  .exact I H
  .omega)).trans (h.block i hi I)⟩
def aa.drewN(h:aa S a w)(n:Nat):aa S a (w.drewN n):=⟨h.os,h.tape,h.output,h.size,h.block⟩
def aa.drew(h:aa S a w):aa S a w.drew:=⟨h.os,h.tape,h.output,h.size,h.block⟩
def aa.of_below(h:Below a.heap.size a b):aa S a b:=⟨h.os,h.tape,h.output,h.size,λi hi _=>h.block i hi⟩
def aa.of_qt(h:Qt a b):aa S a b:=aa.of_below (h.below _)
def aa.below(h:aa S a b)(H:∀i∈S,B<=i)(I:B<=a.heap.size):Below B a b:=
 ⟨h.os,h.tape,h.output,h.size,λi hi=>h.block i ahp λk=>by have:=H i k;omega⟩
def aa.blk{g:Nat}(h:aa S w w')(I:Blk w g t cs)(hg:g∉S):Blk w' g t cs:=(h.block g I.lt hg).trans I
def aa.grown{g:Nat}(h:w.grownBy w' (some g)):aa [g] w w':=⟨h.os,h.tape,h.output,h.size,λi hi H=>h.block i hi (by intro e;injection e with e;exact H (by simp[e]))⟩
def aa.own(h:w.ownsRow base e sz v n xs)(k:aa S w w')(hn:∀g,v.ownBlock=some g->g∉S):w'.ownsRow base e sz v n xs:=by
 cases O:v.ownBlock with
 |none=>
  rcases h.2 with⟨rfl,Y⟩|⟨g,cap,V,rfl,_⟩
  .exact⟨h.1,.inl ⟨rfl,Y⟩⟩
  .simp[Value.ownBlock]at O
 |some g=>
  have hg:g∉S:=hn g O;have hl:=(h.lt g O).2;rcases h.2 with⟨rfl,Y⟩|⟨H,cap,V,rfl,I,hc,r⟩
  .simp[Value.ownBlock]at O
  .have e:H=g:=(by simpa[Value.ownBlock]using O);subst e;exact⟨h.1,.inr ⟨H,cap,V,rfl,I,(k.block H hl hg).trans hc,r⟩⟩
end
def aa.cellC(t:aa S w w')(H:p.block<w.heap.size)(h:p.block∉S):w'.cell? p=w.cell? p:=by unfold World.cell?;rw[t.block _ H h]
end
section
open Go
variable{i:Int}
structure Ar where
 W:List Int
 room:Nat
 ops:Nat
 k:Int
 at_:Int
 wr:Bool
def inR(W:List Int)(x:Int):Bool:=decide (1<=x/\x<=W.length)
def ldW(W:List Int)(x:Int):Int:=if inR W x then W.getD (x.toNat-1) 0 else 0
def stW(W:List Int)(x v:Int):List Int:=if inR W x then W.set (x.toNat-1) v else W
def fm(s:Ar)(k x:Int)(wr:Bool):Ar:=if inR s.W x then {s with ops:=s.ops+1,k:=k,at_:=x,wr:=wr} else s
def wrA(s:Ar)(x v:Int):Ar:={s with W:=stW s.W x v}
def af(s:Ar)(x:Int):Ar:=fm s 1 x false
def ae(s:Ar)(x v:Int):Ar:=wrA (fm s 2 x true) x v
def ch(s:Ar)(x v:Int):Ar:=wrA (fm s 3 x true) x v
def cB(s:Ar)(x old:Int):Bool:=inR s.W x&&decide (ldW s.W x=old)
def dU(s:Ar)(x old v:Int):Ar:=if cB s x old then wrA (fm s 4 x true) x v else fm s 4 x false
def addA(s:Ar)(x d:Int):Ar:=wrA (fm s 5 x true) x (IntKind.i64.wrap (ldW s.W x+d))
def bJ(W:List Int)(x v:Int):(stW W x v).length=W.length:=by unfold stW;split<;>simp
def aR{W:List Int}:inR W x=true↔1<=x/\x<=W.length:=by unfold inR;exact decide_eq_true_iff
def iN{W:List Int}:inR W x=false↔¬(1<=x/\x<=W.length):=by unfold inR;exact decide_eq_false_iff_not
structure Sp where
 pc:Int
 a:Int
 b:Int
 c:Int
def Sp.zero:Sp:=⟨0,0,0,0⟩
def Gt{p q:Sp}(h1:p.pc=q.pc)(h:p.a=q.a)(H:p.b=q.b)(I:p.c=q.c):p=q:=by cases p;cases q;simp at *;exact⟨h1,h,H,I⟩
def okI(S:List Sp)(i:Int):Prop:=0<=i/\i<S.length
instance (S:List Sp)(i:Int):Decidable (okI S i):=by unfold okI;infer_instance
def getS(S:List Sp)(i:Int):Sp:=if 0<=i/\i<S.length then S.getD i.toNat Sp.zero else Sp.zero
def dJ{S:List Sp}(h:okI S i):S[i.toNat]? =some (getS S i):=by
 unfold getS;rw[if_pos (show 0<=i/\i<S.length from h),List.getD_eq_getElem?_getD];have:i.toNat<S.length:=by have:=h.1;have:=h.2;omega
 rw[List.getElem?_eq_getElem this];rfl
def dC{S:List Sp}(h:¬okI S i):getS S i=Sp.zero:=by unfold getS;rw[if_neg (show ¬(0<=i/\i<S.length)from h)]
def sv(S:List Sp)(j:Nat):Sp:=S.getD j Sp.zero
def kV{α:Type}(l:List α)(i j:Nat)(a d:α):(l.set i a).getD j d=if i=j/\i<l.length then a else l.getD j d:=by
 rw[List.getD_eq_getElem?_getD,List.getD_eq_getElem?_getD,List.getElem?_set];by_cases h:i=j
 .subst h;by_cases H:i<l.length;.simp[H]
  .simp[H]
 .simp[h]
theorem cJ(S:List Sp)(i j:Nat)(p:Sp):sv (S.set i p) j=if i=j/\i<S.length then p else sv S j:=kV _ _ _ _ _
def dL(s:Ar)(k x:Int)(wr:Bool):(fm s k x wr).W=s.W:=by unfold fm;split<;>rfl
def iW(s:Ar)(k x:Int)(wr:Bool)(h:inR s.W x=false):fm s k x wr=s:=by unfold fm;rw[h];rfl
def rR(s:Ar)(x v:Int)(h:inR s.W x=false):wrA s x v=s:=by unfold wrA stW;rw[h];rfl
def jh{W:List Int}(h:inR W x=true):ldW W x=W.getD (x.toNat-1) 0:=by unfold ldW;rw[if_pos h]
def kY{W:List Int}(h:inR W x=false):ldW W x=0:=by unfold ldW;rw[h];rfl
def xS(s:Ar)(x v:Int):(wrA s x v).W=stW s.W x v:=rfl
def aP(s:Ar)(x:Int):(af s x).W=s.W:=dL _ _ _ _
def ay(s:Ar)(x v:Int):(ae s x v).W=stW s.W x v:=by unfold ae;rw[xS,dL]
def dN(s:Ar)(x v:Int):(ch s x v).W=stW s.W x v:=by unfold ch;rw[xS,dL]
def gO(s:Ar)(x o v:Int):(dU s x o v).W=if cB s x o then stW s.W x v else s.W:=by unfold dU;split<;>rename_i h<;>simp only[xS,dL]
def dX(s:Ar)(x d:Int):(addA s x d).W=stW s.W x (IntKind.i64.wrap (ldW s.W x+d)):=by unfold addA;rw[xS,dL]
def fH(s:Ar)(k x:Int)(wr:Bool):(fm s k x wr).ops<=s.ops+1:=by unfold fm;split<;>simp
def iP(s:Ar)(x:Int):(af s x).ops<=s.ops+1:=fH _ _ _ _
def hY(s:Ar)(x v:Int):(ae s x v).ops<=s.ops+1:=fH _ _ _ _
def eU(s:Ar)(x v:Int):(ch s x v).ops<=s.ops+1:=fH _ _ _ _
def jz(s:Ar)(x d:Int):(addA s x d).ops<=s.ops+1:=fH _ _ _ _
def nL(s:Ar)(x o v:Int):(dU s x o v).ops<=s.ops+1:=by unfold dU;split<;>exact fH _ _ _ _
def gj{W:List Int}(h:inR W x=true)(v y:Int):ldW (stW W x v) y=if y=x then v else ldW W y:=by
 obtain⟨h1,O⟩:=aR.1 h;unfold ldW stW;rw[if_pos h];have e:inR (W.set (x.toNat-1) v) y=inR W y:=by unfold inR;rw[List.length_set]
 rw[e];by_cases H:inR W y=true
 .rw[if_pos H,if_pos H,List.getD_eq_getElem?_getD,List.getElem?_set];obtain⟨V,Y⟩:=aR.1 H;by_cases I:y=x;.subst I;rw[if_pos rfl,if_pos rfl,if_pos ahp];rfl
  .rw[if_neg I,if_neg ahp,List.getD_eq_getElem?_getD]
 .rw[if_neg H,if_neg H];rw[if_neg];rintro rfl;exact H h
end
section
open Go.RowKit
variable{q:Nat}{S:List Sp}{p:Sp}
def bf(p:Sp):List Value:=[J p.pc,J p.a,J p.b,J p.c]
def iF(p:Sp):(bf p).length=4:=rfl
def dA(w:World)(q:Nat)(S:List Sp):Prop:=Blk w q 113 (S.flatMap bf).toArray
def dA.cell(h:dA w q S)(H:S[i]? =some p)(j:Nat)(u:Value)(I:(bf p)[j]? =some u):Z w q (i*4+j) u:=by rw[Blk.cell h];simpa using cY bf 4 iF S i p j u H I
def xj{α:Type}(enc:α->List Value)(sz:Nat)(hs:∀x,(enc x).length=sz)(l:List α):∀k x x' j u,l[k]? =some x->j<sz->(enc x).set j u=enc x'->(l.flatMap enc).set (k*sz+j) u=(l.set k x').flatMap enc:=by
  induction l with
  | nil=>intro k x x' j u h;simp at h
  | cons a l O=>
    intro k x x' j u h I H;cases k with
    | zero=>simp at h;subst h;rw[List.set_cons_zero,List.flatMap_cons,List.flatMap_cons,List.set_append_left _ _ (by rw[hs];omega)];simp[H]
    | succ k=>rw[List.set_cons_succ,List.flatMap_cons,List.flatMap_cons,List.set_append_right _ _ (by rw[hs,Nat.succ_mul];omega),hs];have:(k+1)*sz+j-sz=k*sz+j:=(by rw[Nat.succ_mul];omega);rw[this,O k x x' j u (by simpa using h) I H]
def dA.put(h:dA w q S){p':Sp}(O:S[i]? =some p){j:Nat}{u:Value}(I:j<4)(H:(bf p).set j u=bf p'):dA (w.setCell ⟨q,i*4+j,none⟩ u) q (S.set i p'):=by have h1:=Blk.set_ h (i*4+j) u;unfold dA;rw[List.setIfInBounds_toArray,xj bf 4 iF S i p p' j u O I H]at h1;exact h1
def dA.lt(h:dA w q S):q<w.heap.size:=Blk.lt h
def dA.free(h:dA w q S)(i:Nat):w.frozen? ⟨q,i,none⟩=false:=Blk.free h i
def dA.turns(h:dA w q S)(k:aa T w w')(H:q∉T):dA w' q S:=k.blk h H
def aC(p:Sp):Value:= agg #[J p.pc,J p.a,J p.b,J p.c]
def aO(a b c d:Int)(w:World):(Instr.field 113 (agg #[J a,J b,J c,J d]) 0).run prog w= .ok (J a) w:=by kernel_rfl
end
section
open Go Go.RowKit
def lkP(lb:Nat):Value:= ↑lb
section
variable{lb:Nat}
def ui(hc:Z w lb 1 (J n)):E 53 #[lkP lb] w λe w'=>e= returned (J n)/\w=w':=by unfold lkP;go_enter func53,ntmps53;exact aab
def sV(hc:Z w lb 1 (J n))(i:Int)(r:Bool)(V:decide (0<=i/\i<n)=r):E 58 #[lkP lb,J i] w λe w'=>e= returned (.bool r)/\w=w':=by
 have I:=qh (ui hc);obtain⟨v,O⟩:=LE (lkP lb);rw[<-O]at I ⊢;have H:=qh V;clear hc O V;by_cases Y:i<0;.have t0:decide (0<=i)=false:=decide_eq_false ahp;have h:Kq (r=false):=qh (by rw[<-H.o];exact decide_eq_false ahp);clear Y;go_enter func58,ntmps58;go_wp2;go_ret;exact⟨az h.o.symm,rfl⟩
 .have t0:decide (0<=i)=true:=decide_eq_true ahp;have h:Kq (r=decide (i<(n:Int))):=qh (by rw[<-H.o];by_cases e:i<(n:Int)<;>simp[e];omega);clear Y;go_enter func58,ntmps58;go_wp2_with fail;refine LT I.o ?_;go_wp2;go_ret;exact⟨az h.o.symm,rfl⟩
end
end
section
open Go.RowKit
def gw(g:Nat)(s:Ar):Array Value:=#[slice (some ⟨g,0,none⟩) s.room s.room,J s.W.length,J s.ops,J s.k,J s.at_,.bool s.wr]
def wdL(s:Ar):List Value:=(s.W++List.replicate (s.room-s.W.length) 0).map (Value.int .i64)
structure aB(w:World)(a g:Nat)(s:Ar):Prop where
 blk:Blk w a 106 (gw g s)
 wds:Blk w g 216 (wdL s).toArray
 ne:a≠g
 le:s.W.length<=s.room
 room:s.room<=4096
 ops:s.ops<=1000000000000
def aB.turns{a g:Nat}{s:Ar}(h:aB w a g s)(k:aa S w w')(H:a∉S)(hg:g∉S):aB w' a g s:=
 ⟨k.blk h.blk H,k.blk h.wds hg,h.ne,h.le,h.room,h.ops⟩
def aB.word{a g:Nat}{s:Ar}(h:aB w a g s)(hi:i<s.W.length):Z w g i (J (s.W.getD i 0))/\w.frozen? ⟨g,i,none⟩=false:=by refine⟨?_,h.wds.free i⟩;rw[h.wds.cell i];simp[wdL,List.getElem?_append,hi]
def EQ(s:Ar)(hi:i<s.W.length)(v:Int):(wdL s).toArray.setIfInBounds i (J v)=(wdL {s with W:=s.W.set i v}).toArray:=by unfold wdL;simp only[List.setIfInBounds_toArray,List.length_set];congr 1;rw[<-List.map_set,List.set_append_left _ _ hi]
section
variable{a g:Nat}{s:Ar}
def aB.c0(h:aB w a g s):w.cell? a=some (slice (some ⟨g,0,none⟩) s.room s.room):=h.blk.cell 0
def aB.c1(h:aB w a g s):Z w a 1 (J s.W.length):=h.blk.cell 1
def aB.c2(h:aB w a g s):Z w a 2 (J s.ops):=h.blk.cell 2
def aB.c3(h:aB w a g s):Z w a 3 (J s.k):=h.blk.cell 3
def aB.c4(h:aB w a g s):Z w a 4 (J s.at_):=h.blk.cell 4
def aB.c5(h:aB w a g s):Z w a 5 (.bool s.wr):=h.blk.cell 5
end
def nj{a g:Nat}{s:Ar}(h:aB w a g s):E 112 #[↑a] w λe w'=>e= returned (J s.W.length)/\w=w':=by have c1:=h.c1;clear h;go_enter func112,ntmps112;go_wp2;go_ret;exact⟨rfl,rfl⟩
def zW{a g:Nat}{s:Ar}(h:aB w a g s):E 14 #[↑a] w λe w'=>e= returned (J s.ops)/\w=w':=by have c1:=h.c2;clear h;go_enter func14,ntmps14;go_wp2;go_ret;exact⟨rfl,rfl⟩
def ks{a g:Nat}{s:Ar}(h:aB w a g s)(x:Int)(O:inR s.W x=true):E 186 #[↑a,J x] w λe w'=>e= returned (pointer (some ⟨g,x.toNat-1,none⟩))/\w=w':=by
  have c0:=h.c0;have H:=qh h;have hl:=h.le;have V:=h.room;obtain⟨h1,Y⟩:=aR.1 O;obtain⟨n,rfl⟩:∃n:Nat,x=((n+1:Nat):Int):=⟨x.toNat-1,by omega⟩;have I:((n+1:Nat):Int).toNat-1=n:=by omega
  rw[I];have t1:¬((n+1:Nat):Int)<1:=by omega
  have t2:¬(s.W.length:Int)<((n+1:Nat):Int):=by omega
  have t3:(n:Int)<s.room:=by omega
  clear h O h1 Y I;go_enter func186,ntmps186;go_wp2_with (go_at_call 112;refine(nj H.o).mono ?_;rintro e w' ⟨rfl,rfl⟩);go_ret;exact⟨by simp,rfl⟩
def j7{a g:Nat}{s:Ar}(h:aB w a g s)(x:Int)(I:inR s.W x=false):E 186 #[↑a,J x] w λe w'=>e= returned (.pointer none)/\w=w':=by
  have H:=qh h;have O:=iN.1 I;clear h I;by_cases h1:x<1;. go_enter func186,ntmps186;go_wp2_with (go_at_call 112;refine(nj H.o).mono ?_;rintro e w' ⟨rfl,rfl⟩);go_ret;exact⟨rfl,rfl⟩
  . have t2:(s.W.length:Int)<x:=(by omega);clear O;go_enter func186,ntmps186;go_wp2_with (go_at_call 112;refine(nj H.o).mono ?_;rintro e w' ⟨rfl,rfl⟩);go_ret;exact⟨rfl,rfl⟩
def iX{a g:Nat}{s:Ar}(h:aB w a g s)(k x:Int)(wr:Bool)(O:inR s.W x=true)(Y:s.ops+1<=1000000000000):E 187 #[↑a,J k,J x,.bool wr] w λe w'=>e= returned (tuple #[])/\aB w' a g (fm s k x wr)/\aa [a] w w':=by
  have c2:=h.c2;have c3:=h.c3;have c4:=h.c4;have c5:=h.c5;have V:=h.blk.free 2;have f3:=h.blk.free 3;have f4:=h.blk.free 4;have f5:=h.blk.free 5;have hl:=h.blk.lt;have H:=qh h;have HX:=qh O;clear h O;go_enter func187,ntmps187;go_wp2;go_end0;refine⟨rfl,?_,?_⟩;. have I:=(((H.o.blk.set_ 2 (J (s.ops+1))).set_ 3 (J k)).set_ 4 (J x)).set_ 5 (.bool wr);have hw:=(((H.o.wds.far (p:=⟨a,2,none⟩) H.o.ne.symm (J (s.ops+1))).far (p:=⟨a,3,none⟩) H.o.ne.symm (J k)).far (p:=⟨a,4,none⟩) H.o.ne.symm (J x)).far (p:=⟨a,5,none⟩) H.o.ne.symm (.bool wr);have e:fm s k x wr={s with ops:=s.ops+1,k:=k,at_:=x,wr:=wr}:=(by unfold fm;rw[if_pos HX.o]);rw[e];exact⟨I,hw,H.o.ne,H.o.le,H.o.room,Y⟩
  . exact((((aa.refl _ _).setCell (.inl ahq) _).setCell (.inl ahq) _).setCell (.inl ahq) _).setCell (.inl ahq) _
end
section
open Go Go.RowKit
structure LkM(n:Nat) where
 σ:Type
 β:Type
 ok:σ->Nat->Prop
 ar:σ->Ar
 sp:σ->Nat->Sp
 cn:σ->Nat->Int
 rd:Bool
 step:σ->Nat->σ
 ask:σ->Nat->Bool->σ
 leave:σ->Nat->σ
 bt:β->Nat
 hi:β->Nat
 fp:β->List Nat
 is:β->World->Nat->Nat->Nat->σ->Prop
abbrev MS(n:Nat):Type 1:=(M:LkM n)×M.σ
def rdB(rd:Bool)(p:Sp):Bool:=rd&&decide (p.a=1)
def LkM.Act(M:LkM n)(b:M.β)(w:World)(a g lb:Nat)(C':M.σ)(r:Bool)(e:Ending)(w':World):Prop:=
 e= returned (.bool r)/\M.is b w' a g lb C'/\aa (M.fp b) w w'
def lkB:Nat:=1000000
def dB(p p':Sp):Bool:=decide ((p'.pc=10\/p'.pc=0)/\p.pc≠0/\p.pc≠10)
structure LkM.Good{n:Nat}(M:LkM n):Prop where
 n32:1<=n/\n<=32
 okS:∀st N i,M.ok st N->N<lkB->i<n->M.ok (M.step st i) (N+1)
 okA:∀st N i r,M.ok st N->N<lkB->i<n->M.ok (M.ask st i r) (N+1)
 okL:∀st N i,M.ok st N->N<lkB->i<n->M.ok (M.leave st i) (N+1)
 okm:∀st N,M.ok st N->M.ok st (N+1)
 one:∀st N i j,M.ok st N->i<n->j<n->(M.sp st i).pc=10->(M.sp st j).pc=10->rdB M.rd (M.sp st i)=false->i=j
 pcs:∀st N i,M.ok st N->i<n->0<=(M.sp st i).pc
 cnt:∀st N i,M.ok st N->i<n->((M.sp st i).pc=10↔0<M.cn st i)
 opsS:∀st N i,M.ok st N->N<lkB->i<n->(M.ar (M.step st i)).ops<=(M.ar st).ops+1
 arA:∀st i r,M.ar (M.ask st i r)=M.ar st
 arL:∀st i,M.ar (M.leave st i)=M.ar st
 ais:∀b w a g lb st,M.is b w a g lb st->aB w a g (M.ar st)
 lk:∀b w a g lb st,M.is b w a g lb st->w.cell? ⟨lb,1,none⟩=some (int i64 n)
 kd:∀b w a g lb st,M.is b w a g lb st->∃k:Int,w.cell? ⟨lb,0,none⟩=some (int i64 k)/\M.rd=decide (11<=k/\k<=13)
 fpa:∀b w a g lb st,M.is b w a g lb st->(∀x∈M.fp b,x<M.hi b)/\M.hi b<=w.heap.size
 far:∀b w a g lb st w' S,M.is b w a g lb st->aa S w w'->(∀x∈S,M.hi b<=x\/x<M.bt b)->M.is b w' a g lb st
 cS:∀b w a g lb st N i,M.is b w a g lb st->M.ok st N->N<lkB->i<n->
  Calls prog 51 #[lkP lb,int i64 i] w (M.Act b w a g lb (M.step st i) (dB (M.sp st i) (M.sp (M.step st i) i)))
 cA:∀b w a g lb st N i r,M.is b w a g lb st->M.ok st N->N<lkB->i<n->
  Calls prog 50 #[lkP lb,int i64 i,.bool r] w (M.Act b w a g lb (M.ask st i r) (decide ((M.sp st i).pc=0/\(r=true->M.rd=true))))
 cL:∀b w a g lb st N i,M.is b w a g lb st->M.ok st N->N<lkB->i<n->
  Calls prog 52 #[lkP lb,int i64 i] w (M.Act b w a g lb (M.leave st i) (decide ((M.sp st i).pc=10)))
 cP:∀b w a g lb st i,M.is b w a g lb st->i<n->
  Calls prog 57 #[lkP lb,int i64 i] w λe w'=>e= returned (aC (M.sp st i))/\Below w.heap.size w w'
 cC:∀b w a g lb st i,M.is b w a g lb st->i<n->
  Calls prog 18 #[lkP lb,int i64 i] w λe w'=>e= returned (int i64 (M.cn st i))/\Below w.heap.size w w'
end
section
open Go Go.RowKit
variable{i:Int}{p:Sp}
section
variable{M:LkM n}{a g lb:Nat}{b:M.β}{st C':M.σ}
def kN(pc:Int):Int:=if pc=0 then 0 else if pc<10 then 1 else if pc=10 then 2 else 3
def wj(h:E 57 #[lkP lb,J i] w λe w'=>e= returned (aC p)/\Below w.heap.size w w'):E 16 #[lkP lb,J i] w λe w'=>e= returned (J (kN p.pc))/\Below w.heap.size w w':=by
  have O:=aO;have H:=qh h;clear h;obtain⟨pc,u,v,z⟩:=p;unfold aC at H;obtain⟨q,I⟩:=LE (lkP lb);rw[<-I]at H ⊢;have HX:Kq (kN pc=if (pc==0)=true then 0 else if decide (pc<10)=true then 1 else if (pc==10)=true then 2 else 3):=qh (by unfold kN;simp);clear I;simp only;cases t0:(pc==0)
  . cases t1:decide (pc<10)
    . cases t2:(pc==10);. rw[show kN pc=3 from by rw[HX.o,t0,t1,t2];rfl];go_enter func16,ntmps16;go_wp2_with fail;refine Pi H.o λw1 B1=>?_;go_wp2;go_ret;exact⟨rfl,B1.o⟩
      . rw[show kN pc=2 from by rw[HX.o,t0,t1,t2];rfl];go_enter func16,ntmps16;go_wp2_with fail;refine Pi H.o λw1 B1=>?_;go_wp2;go_ret;exact⟨rfl,B1.o⟩
    . rw[show kN pc=1 from by rw[HX.o,t0,t1];rfl];go_enter func16,ntmps16;go_wp2_with fail;refine Pi H.o λw1 B1=>?_;go_wp2;go_ret;exact⟨rfl,B1.o⟩
  . rw[show kN pc=0 from by rw[HX.o,t0];rfl];go_enter func16,ntmps16;go_wp2_with fail;refine Pi H.o λw1 B1=>?_;go_wp2;go_ret;exact⟨rfl,B1.o⟩
def Gy(G:M.Good)(h:M.is b w a g lb st)(i:Nat)(hi:i<n):E 16 #[lkP lb,J i] w λe w'=>e= returned (J (kN (M.sp st i).pc))/\Below w.heap.size w w':=wj (G.cP b w a g lb st i h hi)
def xH(k:Int)(w:World)(r:Bool)(V:r=decide (11<=k/\k<=13)):E 55 #[J k] w λe w'=>e= returned (.bool r)/\w=w':=by
 have h:=qh V;clear V;by_cases h1:11<=k;.go_enter func55,ntmps55;go_wp2;go_ret;exact⟨az (by rw[h.o];by_cases e:k<=13<;>simp[e];omega),rfl⟩
 .have t1:decide (k >= 11)=false:=decide_eq_false ahp;go_enter func55,ntmps55;go_wp2;go_ret;exact⟨az (by rw[h.o];symm;exact decide_eq_false ahp),rfl⟩
def ze(rd:Bool)(p:Sp):Bool:=!decide (p.pc=0)&&rdB rd p
def Bg(a b c d:Int)(w:World):(Instr.field 113 (agg #[J a,J b,J c,J d]) 1).run prog w= .ok (J b) w:=by kernel_rfl
def Cz{rd:Bool}{k:Int}(O:w.cell? lb=some (J k))(LO:rd=decide (11<=k/\k<=13))(h:∀W,Below w.heap.size w W->E 57 #[lkP lb,J i] W λe w'=>e= returned (aC p)/\Below W.heap.size W w'):E 17 #[lkP lb,J i] w λe w'=>e= returned (bool (ze rd p))/\Below w.heap.size w w':=by
  have Ll:=Bg;have Lc:=aM O;have H:=qh (wj (h w (Below.refl _ _)));have HP:=qh h;have V:Kq (∀W,Below w.heap.size w W->W.cell? lb=some (J k)):=qh λW t=>by rw[(aa.of_below (S:=[]) t).cellC Lc ahq];exact O
  have Y:=qh (λW=>xH k W rd LO);clear h O LO Lc;obtain⟨pc,u,v,z⟩:=p;unfold aC at HP;unfold ze rdB;unfold lkP at *;simp only at H ⊢;by_cases I:pc=0;. subst I;go_enter func17,ntmps17;go_wp2_with fail;refine Pi H.o λw1 B1=>?_;rw[show kN 0=0 from rfl];go_wp2;go_ret;exact⟨rfl,B1.o⟩
  . have e0:kN pc≠0:=(by unfold kN;rw[if_neg I];split;decide;split<;>decide);obtain⟨s,hs⟩:=LE (kN pc);rw[<-hs]at H e0;have t0:(s !=0)=true:=(by simpa using e0);have HZ:=qh (show decide (pc=0)=false from decide_eq_false I);clear hs e0 I;cases rd;. go_enter func17,ntmps17;go_wp2_with fail;refine Pi H.o λw1 b1=>?_;have c0:=V.o _ b1.o;have B1:=qh b1.o;go_wp2_with fail;refine LT (Y.o _) ?_;go_wp2;go_ret;exact⟨az ahq,B1.o⟩
    . go_enter func17,ntmps17;go_wp2_with fail;refine Pi H.o λw1 b1=>?_;have c0:=V.o _ b1.o;have B1:=qh b1.o;go_wp2_with fail;refine LT (Y.o _) ?_;go_wp2_with fail;refine Pi (HP.o _ B1.o) λw3 b3=>?_;have B3:=qh (B1.o.trans (b3.o.mono B1.o.size));clear c0;go_wp2;go_ret;exact⟨az (by rw[HZ.o];by_cases e:u=1<;>simp[e]),B3.o⟩
def Gp(G:M.Good)(h:M.is b w a g lb st)(i:Nat)(hi:i<n):E 17 #[lkP lb,J i] w λe w'=>e= returned (bool (ze M.rd (M.sp st i)))/\Below w.heap.size w w':=by obtain⟨k,I,H⟩:=G.kd b w a g lb st h;exact Cz I H λW t=>G.cP b W a g lb st i (G.far b w a g lb st W [] h (aa.of_below t) ahq) hi
end
end
section
open Go Go.RowKit
def cnB(f:Nat->Bool):Nat->Nat
 |0=>0
 |k+1=>cnB f k+if f k then 1 else 0
def qK{f:Nat->Bool}:∀{k:Nat},0<cnB f k->∃i,i<k/\f i=true
 |0,h=>absurd h (by simp[cnB])
 |k+1,h=>by
  by_cases e:f k=true;.exact⟨k,by omega,e⟩
  .simp only[cnB,e]at h;obtain⟨i,h1,H⟩:=qK (k:=k) (by simpa using h);exact⟨i,by omega,H⟩
def wZ{f:Nat->Bool}:∀{k:Nat},(∀i j,i<k->j<k->f i=true->f j=true->i=j)->cnB f k<=1
 |0,_=>by simp[cnB]
 |k+1,h=>by
  have h1:=wZ (f:=f) (k:=k) (λi j a b=>h i j ahp ahp);simp only[cnB];split
  .rename_i e;by_cases c:0<cnB f k;.obtain⟨i,a,b⟩:=qK c;have:=h i k ahp ahp b e;omega
   .omega
  .omega
section
variable{M:LkM n}{a g lb:Nat}{b:M.β}{st C':M.σ}
def LkM.inW(M:LkM n)(st:M.σ)(i:Nat):Bool:=decide ((M.sp st i).pc=10)&&!rdB M.rd (M.sp st i)
def LkM.inD(M:LkM n)(st:M.σ)(i:Nat):Bool:=decide ((M.sp st i).pc=10)&&rdB M.rd (M.sp st i)
def LkM.Good.safe(G:M.Good)(h:M.ok st N):cnB (M.inW st) n<=1/\(0<cnB (M.inW st) n->cnB (M.inD st) n=0):=by
 have h1:∀i j,i<n->j<n->M.inW st i=true->(M.sp st j).pc=10->i=j:=λi j hi H hw I=>by unfold LkM.inW at hw;simp only[Bool.and_eq_true,decide_eq_true_eq,Bool.not_eq_true']at hw;exact G.one st N i j h hi H hw.1 I hw.2
 have O:∀i,M.inW st i=true->(M.sp st i).pc=10:=λi hw=>by unfold LkM.inW at hw;simp only[Bool.and_eq_true,decide_eq_true_eq]at hw;exact hw.1
 refine⟨wZ λi j hi H a c=>h1 i j hi H a (O j c),λV=>?_⟩;obtain⟨i,hi,hw⟩:=qK V;apply Classical.byContradiction;intro hc;obtain⟨j,H,hd⟩:=qK (f:=M.inD st) (k:=n) ahp;unfold LkM.inD at hd;simp only[Bool.and_eq_true,decide_eq_true_eq]at hd;have e:=h1 i j hi H hw hd.1;subst e;unfold LkM.inW at hw;simp[hd.2]at hw
def LkM.Ac(M:LkM n)(b:M.β)(w:World)(a g lb:Nat)(st:M.σ)(N:Nat)(q:Prop)(e:Ending)(w':World):Prop:=
 ∃r C',e= returned (.bool r)/\M.is b w' a g lb C'/\M.ok C' (N+1)/\((M.ar C').ops<=(M.ar st).ops+1/\(q->(M.ar C').ops=(M.ar st).ops))/\aa (M.fp b) w w'
end
end
section
open Go Go.RowKit
def evV(e:Ev):Value:= agg #[J e.kind,J e.thread,.bool e.read,J e.count]
def Blk.set4{g:Nat}{a b c d H b' I d':Value}(h:Blk w g t #[a,b,c,d]):Blk ((((w.setCell ⟨g,0,none⟩ H).setCell ⟨g,1,none⟩ b').setCell ⟨g,2,none⟩ I).setCell ⟨g,3,none⟩ d') g t #[H,b',I,d']:=
 (((h.set_ 0 H).set_ 1 b').set_ 2 I).set_ 3 d'
def aa.set4{w0:World}(h:aa S w0 w)(I:w0.heap.size<=H)(p q r s:Value):aa S w0 ((((w.setCell ⟨H,0,none⟩ p).setCell ⟨H,1,none⟩ q).setCell ⟨H,2,none⟩ r).setCell ⟨H,3,none⟩ s):=
 (((h.setCell (.inr I) p).setCell (.inr I) q).setCell (.inr I) r).setCell (.inr I) s
section
variable{M:LkM n}
def LkM.stt(M:LkM n)(st:M.σ)(i:Nat):Int:=kN (M.sp st i).pc
def LkM.rds(M:LkM n)(st:M.σ)(i:Nat):Bool:=ze M.rd (M.sp st i)
def LkM.stepE(M:LkM n)(st:M.σ)(i:Nat):Ev×M.σ:=
 if M.stt st i=1 then(if dB (M.sp st i) (M.sp (M.step st i) i)then⟨2,i,M.rds st i,M.cn (M.step st i) i⟩else⟨0,i,M.rds st i,0⟩,M.step st i)
 else if M.stt st i=3 then(⟨if dB (M.sp st i) (M.sp (M.step st i) i)then 4 else 0,i,M.rds st i,0⟩,M.step st i)
 else(⟨0,i,M.rds st i,0⟩,st)
def LkM.askE(M:LkM n)(st:M.σ)(i:Nat)(r:Bool):Ev×M.σ:=
 if (r&&!M.rd)=true then(⟨5,i,M.rds st i,0⟩,st)else(if decide ((M.sp st i).pc=0/\(r=true->M.rd=true))then⟨1,i,r,0⟩else⟨5,i,M.rds st i,0⟩,M.ask st i r)
def LkM.leaveE(M:LkM n)(st:M.σ)(i:Nat)(r:Bool):Ev×M.σ:=
 if (M.rds st i !=r)=true then(⟨5,i,M.rds st i,0⟩,st)else(if decide ((M.sp st i).pc=10)then⟨3,i,r,0⟩else⟨5,i,M.rds st i,0⟩,M.leave st i)
def LkM.pick(M:LkM n)(st:M.σ)(p:Int×Int):Ev×M.σ:=
 if 0<=p.1/\p.1<n then
  (if p.2=0 then M.stepE st p.1.toNat else if p.2=1\/p.2=3 then M.askE st p.1.toNat (decide (p.2=3))else if p.2=2\/p.2=4 then M.leaveE st p.1.toNat (decide (p.2=4))
  else(⟨5,p.1,M.rds st p.1.toNat,0⟩,st))
 else(⟨0,0,false,0⟩,st)
def LkM.Good.pick(G:M.Good){st:M.σ}(h:M.ok st N)(hN:N<lkB)(p:Int×Int):M.ok (M.pick st p).2 (N+1)/\(M.ar (M.pick st p).2).ops<=(M.ar st).ops+1/\((M.pick st p).1.kind=5\/¬(0<=p.1/\p.1<n)->M.ar (M.pick st p).2=M.ar st):=by
 have hm:=G.okm _ _ h;have nil:M.ok st (N+1)/\(M.ar st).ops<=(M.ar st).ops+1:=⟨hm,by omega⟩;unfold LkM.pick;by_cases hi:0<=p.1/\p.1<n
 .rw[if_pos hi];have H:p.1.toNat<n:=by omega
  have hS:=And.intro (G.okS _ _ _ h hN H) (G.opsS _ _ _ h hN H);have I:=λr=>And.intro (G.okA _ _ _ r h hN H) (G.arA st p.1.toNat r);have O:=And.intro (G.okL _ _ _ h hN H) (G.arL st p.1.toNat);split
  .unfold LkM.stepE;split;.exact aac
   .split;.exact aac
    .exact aad
  .split
   .unfold LkM.askE;split;.exact aad
    .exact⟨(I _).1,by rw[(I _).2];omega,λ_=>(I _).2⟩
   .split
    .unfold LkM.leaveE;split;.exact aad
     .exact⟨O.1,by rw[O.2];omega,λ_=>O.2⟩
    .exact aad
 .rw[if_neg hi];exact aad
end
structure WoB{n:Nat}(M:LkM n) where
 b:M.β
 a:Nat
 g:Nat
 wb:Nat
 lb:Nat
 tb:Nat
 hi:Nat
structure bj{n:Nat}{M:LkM n}(X:WoB M)(w:World)(st:M.σ):Prop where
 is:M.is X.b w X.a X.g X.lb st
 wd:Blk w X.wb 121 #[↑X.a,↑X.tb,lkP X.lb,.bool M.rd]
 nf:X.wb∉M.fp X.b
 hw:M.hi X.b<=X.hi/\X.wb<X.hi/\X.hi<=w.heap.size
section
variable{M:LkM n}{X:WoB M}{st C':M.σ}
def bj.far(G:M.Good)(h:bj X w st)(t:aa S w w')(H:∀x∈S,X.hi<=x):bj X w' st:=
 ⟨G.far _ _ _ _ _ _ _ _ h.is t (λx I=> .inl (Nat.le_trans h.hw.1 (H x I))),t.blk h.wd (λm=>by have:=H _ m;have:=h.hw;omega),h.nf,⟨h.hw.1,h.hw.2.1,Nat.le_trans h.hw.2.2 t.size⟩⟩
def bj.below(G:M.Good)(h:bj X w st)(b:Below w.heap.size w w'):bj X w' st:=h.far G (aa.of_below (S:=[]) b) ahq
def bj.act(h:bj X w st)(t:aa (M.fp X.b) w w')(k:M.is X.b w' X.a X.g X.lb C'):bj X w' C':=
 ⟨k,t.blk h.wd h.nf,h.nf,⟨h.hw.1,h.hw.2.1,Nat.le_trans h.hw.2.2 t.size⟩⟩
def bj.lo(G:M.Good)(h:bj X w st):∀r∈M.fp X.b,r<X.hi:=λr V=>Nat.lt_of_lt_of_le ((G.fpa _ _ _ _ _ _ h.is).1 r V) h.hw.1
def bj.set(G:M.Good)(h:bj X w st)(O:X.hi<=H)(i:Nat)(u:Value):bj X (w.setCell ⟨H,i,none⟩ u) st:=
 h.far G (S:=[H]) ((aa.refl _ _).setCell (.inl ahq) u) (λj I=>by simp at I;omega)
def bj.set4(G:M.Good)(h:bj X w st)(I:X.hi<=H)(p q r s:Value):bj X ((((w.setCell ⟨H,0,none⟩ p).setCell ⟨H,1,none⟩ q).setCell ⟨H,2,none⟩ r).setCell ⟨H,3,none⟩ s) st:=
 (((h.set G I 0 p).set G I 1 q).set G I 2 r).set G I 3 s
def wL(X:WoB M)(w:World)(C':M.σ)(v:Value)(e:Ending)(w':World):Prop:=
 e= returned v/\bj X w' C'/\aa (M.fp X.b) w w'
def my(G:M.Good)(h:bj X w st)(i:Nat)(hi:i<n):E 28 #[lkP X.wb,J i] w λe w'=>e= returned (tuple #[J (M.stt st i),bool (M.rds st i)])/\Below w.heap.size w w':=by
  have H:Kq (∀W,Below w.heap.size w W->Z W X.wb 2 ↑X.lb):=qh λW b=>(h.below G b).wd.cell 2;have c2:=H.o _ (Below.refl _ _);have O:=qh (λW (b:Below w.heap.size w W)=>Gy G (h.below G b).is i hi);have I:=qh (λW (b:Below w.heap.size w W)=>Gp G (h.below G b).is i hi);unfold LkM.stt LkM.rds;obtain⟨z,Y⟩:=LE (kN (M.sp st i).pc);obtain⟨r,V⟩:=LE (ze M.rd (M.sp st i));rw[<-Y]at O ⊢;rw[<-V]at I ⊢;unfold lkP at *;clear h Y V;have K:=qh (show Below w.heap.size w w.drew from(Below.refl _ _).drew);go_enter func28,ntmps28;go_wp2_with fail
  go_region_held3 (λW=>Z W X.wb 2 ↑X.lb)
    (first|with_reducible exact H.o _ K.o)
    (first
      | (go_at_call 16;go_loud (refine Pi (O.o _ K.o) λw2 b2=>?_);have K:=qh (K.o.trans (b2.o.mono K.o.size)))
      | (go_at_call 17;go_loud (refine Pi (I.o _ K.o) λw3 b3=>?_);have K:=qh (K.o.trans (b3.o.mono K.o.size))))
  all_goals go_wp2;go_ret2;exact⟨rfl,K.o⟩
def pB(G:M.Good)(h:bj X w st):E 61 #[lkP X.wb] w λe w'=>e= returned (J n)/\w=w':=by have c2:=h.wd.cell 2;have HT:=qh (ui (G.lk _ _ _ _ _ _ h.is));unfold lkP at *;clear h;go_enter func61,ntmps61;exact aae
def Gi(G:M.Good)(h:bj X w st):E 23 #[lkP X.wb] w λe w'=>e= returned (J (M.ar st).ops)/\w=w':=by have c2:=h.wd.cell 0;have HT:=qh (zW (G.ais _ _ _ _ _ _ h.is));unfold lkP at *;clear h;go_enter func23,ntmps23;exact aae
end
end
section
open Go Go.RowKit
section
variable{M:LkM n}{X:WoB M}{st C':M.σ}
def IT(G:M.Good)(h:bj X w st)(hk:M.ok st N)(hN:N<lkB)(i:Nat)(hi:i<n):E 65 #[lkP X.wb,J i] w (wL X w (M.stepE st i).2 (evV (M.stepE st i).1)):=by
  refine aiJ ?_;intro Ki b0 h0 HS M4 H0 HL;refine ajY ?_;intro HM;have KW:=qh (h.lo G);have HG:=qh G;have KZ:=qh (λW (k:bj X W st)=>G.cS _ _ _ _ _ _ _ i k.is hk hN hi);have L2:=qh (λW (k:bj X W (M.step st i))=>G.cC _ _ _ _ _ _ i k.is hi);unfold LkM.stepE;obtain⟨z,hz⟩:=LE (M.stt st i);obtain⟨rd,LO⟩:=LE (M.rds st i);obtain⟨r,V⟩:=LE (dB (M.sp st i) (M.sp (M.step st i) i));obtain⟨c,hc⟩:=LE (M.cn (M.step st i) i);obtain⟨s2,JY⟩:=LE (M.step st i);rw[<-hz,<-LO]at HS ⊢;rw[<-V]at KZ ⊢;rw[<-hc]at L2 ⊢;rw[<-JY]at KZ L2 ⊢;clear h h0 M4 b0 hz LO V hc JY G hk;unfold lkP at *;by_cases h1:z=1
  . subst h1;rw[if_pos rfl];cases r;. rw[if_neg ahr];go_enter func65,ntmps65;go_wp2_with fail;refine ajR ?_;intro w1 b1 JZ;rw[Ki]at JZ;refine aiE ?_;intro H1 H2 c2;go_wp2_with fail;refine aiO ?_;intro w3 k3 KI H3;refine aiF ?_;intro z0 z1 z2 z3 y0 y1 y2 y3;have x0:=H3.o.2.2.1.cell 0;have x1:=H3.o.2.2.1.cell 1;have x2:=H3.o.2.2.1.cell 2;have x3:=H3.o.2.2.1.cell 3;go_wp2;exact bodyPost_ret (results_cell_row aht _ _ w.heap.size 55 _ (0,0) _ aht ahA Tryz.underlying55 rfl ahs) rfl ⟨rfl,H3.o.1.set4 HG.o HM.o _ _ _ _,H3.o.2.2.2.set4 (Nat.le_refl _) _ _ _ _⟩
    . rw[if_pos rfl];go_enter func65,ntmps65;go_wp2_with fail;refine ajR ?_;intro w1 b1 JZ;rw[Ki]at JZ;refine aiE ?_;intro H1 H2 c2;go_wp2_with fail;refine aiO ?_;intro w3 k3 KI H3;have c3:=HL.o _ _ H3.o.1;go_wp2_with fail;refine Pi (L2.o _ H3.o.1) λw4 I=>?_;have LU:=I.o.size;have H:=qh (And.intro (H3.o.1.below HG.o I.o) (And.intro (H3.o.2.1.below I.o (H3.o.2.1).lt) (And.intro (H3.o.2.2.1.below I.o (H3.o.2.2.1).lt) (H3.o.2.2.2.trans (aa.of_below I.o)))));have O:w.heap.size≠w1.heap.size:=(by omega);have VM:X.hi<=w1.heap.size:=by have:=HM.o;omega
      have H5:=qh (show(bj X ((w4.setCell ⟨w1.heap.size,0,none⟩ (J 2)).setCell ⟨w1.heap.size,3,none⟩ (J c)) s2)/\Blk ((w4.setCell ⟨w1.heap.size,0,none⟩ (J 2)).setCell ⟨w1.heap.size,3,none⟩ (J c)) w.heap.size 55 #[J 0,J 0,bool false,J 0]/\Blk ((w4.setCell ⟨w1.heap.size,0,none⟩ (J 2)).setCell ⟨w1.heap.size,3,none⟩ (J c)) w1.heap.size 55 #[J 2,J i,.bool rd,J c]/\aa (M.fp X.b) w ((w4.setCell ⟨w1.heap.size,0,none⟩ (J 2)).setCell ⟨w1.heap.size,3,none⟩ (J c))from
        ⟨(H.o.1.set HG.o VM 0 _).set HG.o VM 3 _,(H.o.2.1.far O _).far O _,(H.o.2.2.1.set_ 0 _).set_ 3 _,(H.o.2.2.2.setCell (.inr aid) _).setCell (.inr aid) _⟩)
      have q0:=H.o.2.2.1.free 0;have q3:=H.o.2.2.1.free 3;have ab:=H.o.2.2.1.cell 0;have ad:=H.o.2.2.1.cell 3;refine ajI ?_;intro z0 z1 z2 z3 y0 y1 y2 y3 x0 x1 x2 x3;go_wp2;exact bodyPost_ret (results_cell_row aht _ _ w.heap.size 55 _ (0,0) _ aht (by exact H5.o.2.1.set4) Tryz.underlying55 rfl ahs) rfl ⟨rfl,H5.o.1.set4 HG.o HM.o _ _ _ _,H5.o.2.2.2.set4 (Nat.le_refl _) _ _ _ _⟩
  have u1:(z==1)=false:=by simpa using h1
  rw[if_neg h1];clear h1;by_cases Y:z=3
  . subst Y;clear u1;rw[if_pos rfl];cases r;. rw[if_neg ahr];go_enter func65,ntmps65;go_wp2_with fail;refine ajR ?_;intro w1 b1 JZ;rw[Ki]at JZ;refine aiE ?_;intro H1 H2 c2;go_wp2_with fail;refine aiO ?_;intro w3 k3 KI H3;refine aiF ?_;intro z0 z1 z2 z3 y0 y1 y2 y3;have x0:=H3.o.2.2.1.cell 0;have x1:=H3.o.2.2.1.cell 1;have x2:=H3.o.2.2.1.cell 2;have x3:=H3.o.2.2.1.cell 3;go_wp2;exact bodyPost_ret (results_cell_row aht _ _ w.heap.size 55 _ (0,0) _ aht ahA Tryz.underlying55 rfl ahs) rfl ⟨rfl,H3.o.1.set4 HG.o HM.o _ _ _ _,H3.o.2.2.2.set4 (Nat.le_refl _) _ _ _ _⟩
    . rw[if_pos rfl];go_enter func65,ntmps65;go_wp2_with fail;refine ajR ?_;intro w1 b1 JZ;rw[Ki]at JZ;refine aiE ?_;intro H1 H2 c2;go_wp2_with fail;refine aiO ?_;intro w3 k3 KI H3;have O:w.heap.size≠w1.heap.size:=by omega
      have H5:=qh (show(bj X (w3.setCell ⟨w1.heap.size,0,none⟩ (J 4)) s2)/\Blk (w3.setCell ⟨w1.heap.size,0,none⟩ (J 4)) w.heap.size 55 #[J 0,J 0,bool false,J 0]/\Blk (w3.setCell ⟨w1.heap.size,0,none⟩ (J 4)) w1.heap.size 55 #[J 4,J i,.bool rd,J 0]/\aa (M.fp X.b) w (w3.setCell ⟨w1.heap.size,0,none⟩ (J 4))from
        ⟨H3.o.1.set HG.o ahH 0 _,H3.o.2.1.far O _,H3.o.2.2.1.set_ 0 _,H3.o.2.2.2.setCell (.inr aid) _⟩)
      have q0:=H3.o.2.2.1.free 0;have ab:=H3.o.2.2.1.cell 0;refine ajI ?_;intro z0 z1 z2 z3 y0 y1 y2 y3 x0 x1 x2 x3;go_wp2;exact bodyPost_ret (results_cell_row aht _ _ w.heap.size 55 _ (0,0) _ aht (by exact H5.o.2.1.set4) Tryz.underlying55 rfl ahs) rfl ⟨rfl,H5.o.1.set4 HG.o HM.o _ _ _ _,H5.o.2.2.2.set4 (Nat.le_refl _) _ _ _ _⟩
  have u3:(z==3)=false:=by simpa using Y
  rw[if_neg Y];clear Y;go_enter func65,ntmps65;go_wp2_with fail;refine ajR ?_;intro w1 b1 JZ;rw[Ki]at JZ;refine aiE ?_;intro H1 H2 c2;have z0:=H2.o.2.1.free 0;have z1:=H2.o.2.1.free 1;have z2:=H2.o.2.1.free 2;have z3:=H2.o.2.1.free 3;have y0:=H2.o.2.1.cell 0;have y1:=H2.o.2.1.cell 1;have y2:=H2.o.2.1.cell 2;have y3:=H2.o.2.1.cell 3;have x0:=H2.o.2.2.1.cell 0;have x1:=H2.o.2.2.1.cell 1;have x2:=H2.o.2.2.1.cell 2;have x3:=H2.o.2.2.1.cell 3;go_wp2;exact bodyPost_ret (results_cell_row aht _ _ w.heap.size 55 _ (0,0) _ aht (by exact H2.o.2.1.set4) Tryz.underlying55 rfl ahs) rfl ⟨rfl,H2.o.1.set4 HG.o HM.o _ _ _ _,H2.o.2.2.2.set4 (Nat.le_refl _) _ _ _ _⟩
end
end
section
open Go Go.RowKit
section
variable{M:LkM n}{X:WoB M}{st C':M.σ}
def GZ(G:M.Good)(h:bj X w st)(Y:M.ok st N)(hN:N<lkB)(i:Nat)(hi:i<n)(r:Bool):E 66 #[lkP X.wb,J i,.bool r] w (wL X w (M.askE st i r).2 (evV (M.askE st i r).1)):=by
  refine aiJ ?_;intro Ki b0 h0 HS M4 H0 HL;have NL:=qh (λW (s:M.σ) (k:bj X W s)=>show W.cell? ⟨X.wb,3,none⟩=some (.bool M.rd)from k.wd.cell 3);refine ajY ?_;intro HM;have KW:=qh (h.lo G);have HG:=qh G;have HA:=qh (λW (k:bj X W st)=>G.cA _ _ _ _ _ _ _ i r k.is Y hN hi);unfold LkM.askE;obtain⟨z,hz⟩:=LE (M.stt st i);obtain⟨rs,O⟩:=LE (M.rds st i);rw[<-hz,<-O]at HS;rw[<-O];clear h h0 M4 b0 hz O G Y;obtain⟨q,V⟩:=LE (decide ((M.sp st i).pc=0/\(r=true->M.rd=true)));obtain⟨rd,I⟩:=LE M.rd;obtain⟨s2,H⟩:=LE (M.ask st i r);rw[<-V,<-H]at HA;rw[<-V,<-H,<-I];rw[<-I]at NL;clear V I H;unfold lkP at *;cases r
  . rw[if_neg ahq];cases q;. rw[if_neg ahr];go_enter func66,ntmps66;go_wp2_with fail;refine ajR ?_;intro w1 b1 JZ;rw[Ki]at JZ;refine aiL ?_;intro H1 c2 c3;go_wp2_with fail;refine aiN ?_;intro w3 k3 H3;refine aiF ?_;intro z0 z1 z2 z3 y0 y1 y2 y3;go_wp2;exact bodyPost_ret (results_cell_row aht _ _ w.heap.size 55 _ (0,0) _ aht ahA Tryz.underlying55 rfl ahs) rfl ⟨rfl,H3.o.1.set4 HG.o HM.o _ _ _ _,H3.o.2.2.set4 (Nat.le_refl _) _ _ _ _⟩
    . rw[if_pos rfl];go_enter func66,ntmps66;go_wp2_with fail;refine ajR ?_;intro w1 b1 JZ;rw[Ki]at JZ;refine aiL ?_;intro H1 c2 c3;go_wp2_with fail;refine aiN ?_;intro w3 k3 H3;refine aiF ?_;intro z0 z1 z2 z3 y0 y1 y2 y3;go_wp2;exact bodyPost_ret (results_cell_row aht _ _ w.heap.size 55 _ (0,0) _ aht ahA Tryz.underlying55 rfl ahs) rfl ⟨rfl,H3.o.1.set4 HG.o HM.o _ _ _ _,H3.o.2.2.set4 (Nat.le_refl _) _ _ _ _⟩
  . cases rd;. rw[if_pos aht];go_enter func66,ntmps66;go_wp2_with fail;refine ajR ?_;intro w1 b1 JZ;rw[Ki]at JZ;refine aiL ?_;intro H1 c2 c3;have z0:=H1.o.2.1.free 0;have z1:=H1.o.2.1.free 1;have z2:=H1.o.2.1.free 2;have z3:=H1.o.2.1.free 3;have y0:=H1.o.2.1.cell 0;have y1:=H1.o.2.1.cell 1;have y2:=H1.o.2.1.cell 2;have y3:=H1.o.2.1.cell 3;go_wp2;exact bodyPost_ret (results_cell_row aht _ _ w.heap.size 55 _ (0,0) _ aht (by exact H1.o.2.1.set4) Tryz.underlying55 rfl ahs) rfl ⟨rfl,H1.o.1.set4 HG.o HM.o _ _ _ _,H1.o.2.2.set4 (Nat.le_refl _) _ _ _ _⟩
    . rw[if_neg ahq];cases q;. rw[if_neg ahr];go_enter func66,ntmps66;go_wp2_with fail;refine ajR ?_;intro w1 b1 JZ;rw[Ki]at JZ;refine aiL ?_;intro H1 c2 c3;go_wp2_with fail;refine aiN ?_;intro w3 k3 H3;refine aiF ?_;intro z0 z1 z2 z3 y0 y1 y2 y3;go_wp2;exact bodyPost_ret (results_cell_row aht _ _ w.heap.size 55 _ (0,0) _ aht ahA Tryz.underlying55 rfl ahs) rfl ⟨rfl,H3.o.1.set4 HG.o HM.o _ _ _ _,H3.o.2.2.set4 (Nat.le_refl _) _ _ _ _⟩
      . rw[if_pos rfl];go_enter func66,ntmps66;go_wp2_with fail;refine ajR ?_;intro w1 b1 JZ;rw[Ki]at JZ;refine aiL ?_;intro H1 c2 c3;go_wp2_with fail;refine aiN ?_;intro w3 k3 H3;refine aiF ?_;intro z0 z1 z2 z3 y0 y1 y2 y3;go_wp2;exact bodyPost_ret (results_cell_row aht _ _ w.heap.size 55 _ (0,0) _ aht ahA Tryz.underlying55 rfl ahs) rfl ⟨rfl,H3.o.1.set4 HG.o HM.o _ _ _ _,H3.o.2.2.set4 (Nat.le_refl _) _ _ _ _⟩
def D4(G:M.Good)(h:bj X w st)(V:M.ok st N)(hN:N<lkB)(i:Nat)(hi:i<n)(r:Bool):E 67 #[lkP X.wb,J i,.bool r] w (wL X w (M.leaveE st i r).2 (evV (M.leaveE st i r).1)):=by
  refine aiJ ?_;intro Ki b0 h0 HS M4 H0 HL;have NL:=qh (λW (s:M.σ) (k:bj X W s)=>show W.cell? ⟨X.wb,3,none⟩=some (.bool M.rd)from k.wd.cell 3);refine ajY ?_;intro HM;have KW:=qh (h.lo G);have HG:=qh G;have HA:=qh (λW (k:bj X W st)=>G.cL _ _ _ _ _ _ _ i k.is V hN hi);unfold LkM.leaveE;obtain⟨z,Y⟩:=LE (M.stt st i);obtain⟨rs,I⟩:=LE (M.rds st i);rw[<-Y,<-I]at HS;rw[<-I];clear h h0 M4 b0 Y I G V;obtain⟨q,O⟩:=LE (decide ((M.sp st i).pc=10));obtain⟨s2,H⟩:=LE (M.leave st i);rw[<-O,<-H]at HA;rw[<-O,<-H];clear O H;unfold lkP at *;by_cases hd:rs=r
  . subst hd;rw[if_neg ahq];cases q;. rw[if_neg ahr];go_enter func67,ntmps67;go_wp2_with fail;refine ajR ?_;intro w1 b1 JZ;rw[Ki]at JZ;refine aiL ?_;intro H1 c2 c3;go_wp2_with fail;refine aiN ?_;intro w3 k3 H3;refine aiF ?_;intro z0 z1 z2 z3 y0 y1 y2 y3;go_wp2;exact bodyPost_ret (results_cell_row aht _ _ w.heap.size 55 _ (0,0) _ aht ahA Tryz.underlying55 rfl ahs) rfl ⟨rfl,H3.o.1.set4 HG.o HM.o _ _ _ _,H3.o.2.2.set4 (Nat.le_refl _) _ _ _ _⟩
    . rw[if_pos rfl];go_enter func67,ntmps67;go_wp2_with fail;refine ajR ?_;intro w1 b1 JZ;rw[Ki]at JZ;refine aiL ?_;intro H1 c2 c3;go_wp2_with fail;refine aiN ?_;intro w3 k3 H3;refine aiF ?_;intro z0 z1 z2 z3 y0 y1 y2 y3;go_wp2;exact bodyPost_ret (results_cell_row aht _ _ w.heap.size 55 _ (0,0) _ aht ahA Tryz.underlying55 rfl ahs) rfl ⟨rfl,H3.o.1.set4 HG.o HM.o _ _ _ _,H3.o.2.2.set4 (Nat.le_refl _) _ _ _ _⟩
  . obtain rfl:rs=!r:=by cases rs<;>cases r<;>simp_all
    rw[if_pos ahq];clear hd;go_enter func67,ntmps67;go_wp2_with fail;refine ajR ?_;intro w1 b1 JZ;rw[Ki]at JZ;refine aiL ?_;intro H1 c2 c3;have z0:=H1.o.2.1.free 0;have z1:=H1.o.2.1.free 1;have z2:=H1.o.2.1.free 2;have z3:=H1.o.2.1.free 3;have y0:=H1.o.2.1.cell 0;have y1:=H1.o.2.1.cell 1;have y2:=H1.o.2.1.cell 2;have y3:=H1.o.2.1.cell 3;go_wp2;exact bodyPost_ret (results_cell_row aht _ _ w.heap.size 55 _ (0,0) _ aht (by exact H1.o.2.1.set4) Tryz.underlying55 rfl ahs) rfl ⟨rfl,H1.o.1.set4 HG.o HM.o _ _ _ _,H1.o.2.2.set4 (Nat.le_refl _) _ _ _ _⟩
end
end
section
open Go Go.RowKit
section
variable{M:LkM n}{X:WoB M}{st C':M.σ}
def doW(G:M.Good)(h:bj X w st)(hk:M.ok st N)(hN:N<lkB)(p:Int×Int):E 25 #[lkP X.wb,agg #[J p.1,J p.2]] w (wL X w (M.pick st p).2 (evV (M.pick st p).1)):=by
  obtain⟨t,k⟩:=p;have bA:=((Below.refl w.heap.size w).alloc (Nat.le_refl _) (cells #[J t,J k] 58)).alloc ahq (cells #[J 0,J 0,bool false,J 0] 55);have h0:=h.below G bA;have QD:=(Blk.new w 58 #[J t,J k]).alloc (cells #[J 0,J 0,bool false,J 0] 55);have M4:=Blk.new' (w.alloc (cells #[J t,J k] 58)) 55 #[J 0,J 0,bool false,J 0] (g:=w.heap.size+1) ahq;have QJ:aa (M.fp X.b) w ((w.alloc (cells #[J t,J k] 58)).alloc (cells #[J 0,J 0,bool false,J 0] 55)):=((aa.refl _ _).alloc _).alloc _;have KW:=qh (h.lo G);refine ajY ?_;intro HM;obtain⟨w0,J1⟩:=LE (((w.alloc (cells #[J t,J k] 58)).alloc (cells #[J 0,J 0,bool false,J 0] 55)));rw[<-J1]at h0 QD M4 QJ;have ab:w0.heap.size=w.heap.size+2:=by rw[J1];simp
  have hD:∀m,bj X (w0.drewN m) st:=λm=>h0.below G (Qt.below (⟨m,rfl⟩:Qt w0 (w0.drewN m)) w0.heap.size);have HT:=qh (λm=>pB G (hD m));have KZ:=qh (λm i hi=>my G (hD m) i hi);have I':=qh (λm i hi=>IT G (hD m) hk hN i hi);have Y:=qh (λm i hi r=>GZ G (hD m) hk hN i hi r);have V:=qh (λm i hi r=>D4 G (hD m) hk hN i hi r);have O:=qh (λm=>And.intro (hD m) (And.intro (QD.drewN m) (And.intro (M4.drewN m) (QJ.drewN m))));have c0:w0.cell? w.heap.size=some (J t):=QD.cell 0;have c1:Z w0 w.heap.size 1 (J k):=QD.cell 1;have LI:=qh J1;have HG:=qh G;unfold LkM.pick evV;clear h h0 QD M4 QJ hD J1 G hk bA;simp only;by_cases hi:0<=t/\t<n
  . obtain⟨i,rfl⟩:=Int.eq_ofNat_of_zero_le hi.1;have I:i<n:=(by omega);rw[if_pos hi];simp only[Int.toNat_natCast];unfold lkP at *;have t1:decide ((i:Int)<0)=false:=decide_eq_false ahp;have t2:decide ((i:Int) >= (n:Int))=false:=decide_eq_false ahp;clear hi;by_cases k0:k=0;. subst k0;rw[if_pos rfl];replace I':=qh (λm=>I'.o m i I);obtain⟨x,H⟩:=LE (M.stepE st i);rw[<-H]at I' ⊢;clear H;obtain⟨⟨x1,x2,x3,x4⟩,s2⟩:=x;unfold evV at I';go_enter func25,ntmps25;go_wp2_with fail;rw[<-LI.o];go_quiet ((go_at_call 61;exact bV (HT.o _)));go_wp2_with fail;refine Pi (I'.o _) λw3 k3=>?_;have hB:=O.o nq;refine aiZ ?_;intro H3;clear hB;refine aiF ?_;intro z0 z1 z2 z3 y0 y1 y2 y3;go_wp2;exact bodyPost_ret (results_cell_row aht _ _ (w.heap.size+1) 55 _ (0,0) _ aht ahA Tryz.underlying55 rfl ahs) rfl ⟨rfl,H3.o.1.set4 HG.o ahH _ _ _ _,H3.o.2.2.set4 ahp _ _ _ _⟩
    by_cases k1:k=1;. subst k1;rw[if_neg ahr,if_pos ahr,show decide ((1:Int)=3)=false from rfl];replace Y:=qh (λm=>Y.o m i I false);obtain⟨x,H⟩:=LE (M.askE st i false);rw[<-H]at Y ⊢;clear H;obtain⟨⟨x1,x2,x3,x4⟩,s2⟩:=x;unfold evV at Y;go_enter func25,ntmps25;go_wp2_with fail;rw[<-LI.o];go_quiet ((go_at_call 61;exact bV (HT.o _)));go_wp2_with fail;refine Pi (Y.o _) λw3 k3=>?_;have hB:=O.o nq;refine aiZ ?_;intro H3;clear hB;refine aiF ?_;intro z0 z1 z2 z3 y0 y1 y2 y3;go_wp2;exact bodyPost_ret (results_cell_row aht _ _ (w.heap.size+1) 55 _ (0,0) _ aht ahA Tryz.underlying55 rfl ahs) rfl ⟨rfl,H3.o.1.set4 HG.o ahH _ _ _ _,H3.o.2.2.set4 ahp _ _ _ _⟩
    by_cases k3:k=3;. subst k3;rw[if_neg ahr,if_pos ahr,show decide ((3:Int)=3)=true from rfl];replace Y:=qh (λm=>Y.o m i I true);obtain⟨x,H⟩:=LE (M.askE st i true);rw[<-H]at Y ⊢;clear H;obtain⟨⟨x1,x2,x3,x4⟩,s2⟩:=x;unfold evV at Y;go_enter func25,ntmps25;go_wp2_with fail;rw[<-LI.o];go_quiet ((go_at_call 61;exact bV (HT.o _)));go_wp2_with fail;refine Pi (Y.o _) λw3 k3=>?_;have hB:=O.o nq;refine aiZ ?_;intro H3;clear hB;refine aiF ?_;intro z0 z1 z2 z3 y0 y1 y2 y3;go_wp2;exact bodyPost_ret (results_cell_row aht _ _ (w.heap.size+1) 55 _ (0,0) _ aht ahA Tryz.underlying55 rfl ahs) rfl ⟨rfl,H3.o.1.set4 HG.o ahH _ _ _ _,H3.o.2.2.set4 ahp _ _ _ _⟩
    by_cases k2:k=2;. subst k2;rw[if_neg ahr,if_neg ahr,if_pos ahr,show decide ((2:Int)=4)=false from rfl];replace V:=qh (λm=>V.o m i I false);obtain⟨x,H⟩:=LE (M.leaveE st i false);rw[<-H]at V ⊢;clear H;obtain⟨⟨x1,x2,x3,x4⟩,s2⟩:=x;unfold evV at V;go_enter func25,ntmps25;go_wp2_with fail;rw[<-LI.o];go_quiet ((go_at_call 61;exact bV (HT.o _)));go_wp2_with fail;refine Pi (V.o _) λw3 k3=>?_;have hB:=O.o nq;refine aiZ ?_;intro H3;clear hB;refine aiF ?_;intro z0 z1 z2 z3 y0 y1 y2 y3;go_wp2;exact bodyPost_ret (results_cell_row aht _ _ (w.heap.size+1) 55 _ (0,0) _ aht ahA Tryz.underlying55 rfl ahs) rfl ⟨rfl,H3.o.1.set4 HG.o ahH _ _ _ _,H3.o.2.2.set4 ahp _ _ _ _⟩
    by_cases k4:k=4;. subst k4;rw[if_neg ahr,if_neg ahr,if_pos ahr,show decide ((4:Int)=4)=true from rfl];replace V:=qh (λm=>V.o m i I true);obtain⟨x,H⟩:=LE (M.leaveE st i true);rw[<-H]at V ⊢;clear H;obtain⟨⟨x1,x2,x3,x4⟩,s2⟩:=x;unfold evV at V;go_enter func25,ntmps25;go_wp2_with fail;rw[<-LI.o];go_quiet ((go_at_call 61;exact bV (HT.o _)));go_wp2_with fail;refine Pi (V.o _) λw3 k3=>?_;have hB:=O.o nq;refine aiZ ?_;intro H3;clear hB;refine aiF ?_;intro z0 z1 z2 z3 y0 y1 y2 y3;go_wp2;exact bodyPost_ret (results_cell_row aht _ _ (w.heap.size+1) 55 _ (0,0) _ aht ahA Tryz.underlying55 rfl ahs) rfl ⟨rfl,H3.o.1.set4 HG.o ahH _ _ _ _,H3.o.2.2.set4 ahp _ _ _ _⟩
    have u0:(k==0)=false:=(by simpa using k0);have u1:(k==1)=false:=(by simpa using k1);have u2:(k==2)=false:=(by simpa using k2);have u3:(k==3)=false:=(by simpa using k3);have u4:(k==4)=false:=(by simpa using k4);rw[if_neg k0,if_neg ahp,if_neg ahp];clear k0 k1 k2 k3 k4;replace KZ:=qh (λm=>KZ.o m i I);obtain⟨z,hz⟩:=LE (M.stt st i);obtain⟨rs,NC⟩:=LE (M.rds st i);rw[<-hz,<-NC]at KZ;rw[<-NC];clear hz NC;go_enter func25,ntmps25;go_wp2_with fail;rw[<-LI.o];go_quiet ((go_at_call 61;exact bV (HT.o _)));go_wp2_with fail;refine Pi (KZ.o _) λw3 b3=>?_;have hB:=O.o nq;have H3:=qh (And.intro (hB.1.below HG.o b3.o) (And.intro (hB.2.2.1.below b3.o hB.2.2.1.lt) (And.intro (hB.2.2.2.trans (aa.of_below b3.o)) (hB.2.1.below b3.o hB.2.1.lt))));have c0:w3.cell? w.heap.size=some (J i):=H3.o.2.2.2.cell 0;clear hB;replace H3:=qh (And.intro H3.o.1 (And.intro H3.o.2.1 H3.o.2.2.1));refine aiF ?_;intro z0 z1 z2 z3 y0 y1 y2 y3;go_wp2;exact bodyPost_ret (results_cell_row aht _ _ (w.heap.size+1) 55 _ (0,0) _ aht ahA Tryz.underlying55 rfl ahs) rfl ⟨rfl,H3.o.1.set4 HG.o ahH _ _ _ _,H3.o.2.2.set4 ahp _ _ _ _⟩
  . rw[if_neg hi];unfold lkP at *;by_cases h0:t<0;. have t1:decide (t<0)=true:=decide_eq_true h0;clear hi h0;go_enter func25,ntmps25;go_wp2_with fail;rw[<-LI.o];go_quiet (fail);have H3:=qh (show bj X (w0.drewN nq) st/\Blk (w0.drewN nq) (w.heap.size+1) 55 #[J 0,J 0,bool false,J 0]/\aa (M.fp X.b) w (w0.drewN nq)from⟨(O.o nq).1,(O.o nq).2.2.1,(O.o nq).2.2.2⟩);refine aiF ?_;intro z0 z1 z2 z3 y0 y1 y2 y3;go_wp2;exact bodyPost_ret (results_cell_row aht _ _ (w.heap.size+1) 55 _ (0,0) _ aht ahA Tryz.underlying55 rfl ahs) rfl ⟨rfl,H3.o.1.set4 HG.o ahH _ _ _ _,H3.o.2.2.set4 ahp _ _ _ _⟩
    . have t1:decide (t<0)=false:=decide_eq_false h0;have t2:decide (t >= (n:Int))=true:=decide_eq_true ahp;clear hi h0;go_enter func25,ntmps25;go_wp2_with fail;rw[<-LI.o];go_quiet ((go_at_call 61;exact bV (HT.o _)));have H3:=qh (show bj X (w0.drewN nq) st/\Blk (w0.drewN nq) (w.heap.size+1) 55 #[J 0,J 0,bool false,J 0]/\aa (M.fp X.b) w (w0.drewN nq)from⟨(O.o nq).1,(O.o nq).2.2.1,(O.o nq).2.2.2⟩);refine aiF ?_;intro z0 z1 z2 z3 y0 y1 y2 y3;go_wp2;exact bodyPost_ret (results_cell_row aht _ _ (w.heap.size+1) 55 _ (0,0) _ aht ahA Tryz.underlying55 rfl ahs) rfl ⟨rfl,H3.o.1.set4 HG.o ahH _ _ _ _,H3.o.2.2.set4 ahp _ _ _ _⟩
end
end
section
open Go.RowKit
variable{P:List Int}{k:Nat}{p:Int}{α:Type}
def okP(P:List Int)(v:Nat):Bool:=decide ((v=0->P.getD v 0= -1)/\(0<v->0<=P.getD v 0/\P.getD v 0<v))
def dT(P:List Int):Bool:=(List.range P.length).all (okP P)
def dk(P:List Int)(v:Int):Bool:=decide (0<=v/\v<P.length/\v∉P)
def ak(P:List Int)(k:Nat):List Int:=((List.range k).map Int.ofNat).filter (dk P)
def ac(P:List Int):List Int:=ak P P.length
def dep(P:List Int):Nat->Int->Nat
 |0,_=>0
 |f+1,v=>if 0<=v/\v<P.length then dep P f (P.getD v.toNat 0)+1 else 0
def depL(P:List Int)(v:Int):Nat:=dep P P.length v
def ky(P:List Int):Bool:=(ac P).all λv=>decide (depL P v=depL P ((ac P).headD 0)/\depL P v<=5)
def thrB(P T:List Int):Bool:=T.all (dk P)
def jK(P T:List Int):Bool:=decide (P.length<1\/32<P.length\/T.length<1\/32<T.length)
def a5(P T:List Int):Int:=if jK P T then 8 else if dT P=false then 9 else if ky P=false then 9 else if thrB P T=false then 4 else 0
def bh(h:P[k]? =some p):P.getD k 0=p:=by rw[List.getD_eq_getElem?_getD,h];rfl
def jO(f:Nat->Bool)(k:Nat):(List.range (k+1)).all f=((List.range k).all f&&f k):=by rw[List.range_succ,List.all_append];simp
def xO(h:dT P=true)(H:P[k]? =some p):(k=0->p= -1)/\(0<k->0<=p/\p<k):=by have I:=(List.getElem?_eq_some_iff.1 H).1;unfold dT at h;rw[List.all_eq_true]at h;have:=h k (List.mem_range.2 I);simp only[okP,decide_eq_true_eq,bh H]at this;exact this
def gC(h:dT P=true)(I:P[k]? =some p):-1<=p/\p<k:=by
 have:=xO h I;rcases Nat.eq_zero_or_pos k with H|H
 .have:=this.1 H;omega
 .have:=this.2 H;omega
def ot{P:List Int}(h:dT P=true):∀(f:Nat) (v:Int),v<f->∀g:Nat,v<g->dep P f v=dep P g v
 |0,v,O,g,hg=>by
  cases g with
  |zero=>rfl
  |succ g=>unfold dep;rw[if_neg ahp]
 |f+1,v,O,g,hg=>by
  cases g with
  |zero=>unfold dep;rw[if_neg ahp]
  |succ g=>
   unfold dep;split;.rename_i I;obtain⟨p,H⟩:=ai (show v.toNat<P.length by omega);have:=gC h H;rw[bh H,ot h f p ahp g ahp]
   .rfl
def iE(h:dT P=true)(H:P[k]? =some p):depL P k=if 0<=p then depL P p+1 else 1:=by
 have I:=(List.getElem?_eq_some_iff.1 H).1;have O:=gC h H;unfold depL;rw[ot h P.length k ahp (k+1) ahp];show(if 0<=(k:Int)/\(k:Int)<P.length then dep P k (P.getD (k:Int).toNat 0)+1 else 0)=_;rw[if_pos ahp,Int.toNat_natCast,bh H];split;.rw[ot h k p ahp P.length ahp]
 .have:dep P k p=0:=by
   cases k with
   |zero=>rfl
   |succ k=>unfold dep;rw[if_neg ahp]
  omega
def AJ(P:List Int):∀(f:Nat) (v:Int),dep P f v<=f
 |0,_=>Nat.le_refl _
 |f+1,v=>by
  unfold dep;split;.have:=AJ P f (P.getD v.toNat 0);omega
  .omega
def DA(P:List Int)(v:Int):depL P v<=P.length:=AJ P _ _
def cz(P:List Int)(k:Nat):ak P (k+1)=if dk P k then ak P k++[(k:Int)]else ak P k:=by
 unfold ak;rw[List.range_succ,List.map_append,List.filter_append];show _++List.filter (dk P) [(k:Int)]=_;by_cases h:dk P k=true;.simp[h]
 .simp[h]
def a6(P:List Int):∀k,(ak P k).length<=k:=λk=>by
 unfold ak
 have:=List.length_filter_le (dk P) ((List.range k).map Int.ofNat)
 simpa using this
def fE{v:Int}:v∈ac P↔dk P v=true:=by
 unfold ac ak;rw[List.mem_filter];constructor;.exact λh=>h.2
 .intro h;refine⟨?_,h⟩;simp only[dk,decide_eq_true_eq]at h;rw[List.mem_map];exact⟨v.toNat,List.mem_range.2 ahp,by show((v.toNat:Nat):Int)=v;omega⟩
def iR(h:P[k]? =some p)(x:Int):x∈P.take (k+1)↔x∈P.take k\/x=p:=by rw[a7 h];simp
def ql(n i:Nat)(f g:Nat->α)(u:α)(hi:g i=u)(Y:∀j,j≠i->g j=f j):((List.range n).map f).set i u=(List.range n).map g:=by
 refine List.ext_getElem? λj=>?_;rw[List.getElem?_set];by_cases I:i=j
 .subst I;rw[if_pos rfl];by_cases H:i<n;.simp[H,hi]
  .simp[H]
 .rw[if_neg I];by_cases O:j<n;.simp[O,Y j (λh=>I h.symm)]
  .simp[O]
def i1(n i:Nat)(f:Nat->α)(h:i<n):((List.range n).map f)[i]? =some (f i):=by simp[h]
end
section
open Go.RowKit
variable{k:Nat}{p:Int->Bool}
def fD(l:List Int)(x:Int):Int:=if x∈l then((l.idxOf x:Nat):Int)else -1
def DZ(h:l[k]? =some x)(V:x∉l.take k):fD l x=k:=by
 unfold fD;have hm:x∈l:=List.mem_of_getElem? h;obtain⟨I,H⟩:=List.getElem?_eq_some_iff.1 h;rw[if_pos hm];have O:l=l.take k++(x :: l.drop (k+1)):=by conv=>lhs;rw[<-List.take_append_drop k l,List.drop_eq_getElem_cons I,H]
 have:l.idxOf x=k:=by rw[O,List.idxOf_append];rw[if_neg V,List.idxOf_cons_self];simp;omega
 rw[this]
def By(h:x∉l):fD l x= -1:=by unfold fD;rw[if_neg h]
def eO(l:List Int)(x:Int):(0<=fD l x↔x∈l)/\fD l x<l.length/\-1<=fD l x:=by
 unfold fD;split;.rename_i h;have:=List.idxOf_lt_length_of_mem h;exact⟨by simp[h],by omega,by omega⟩
 .rename_i h;exact⟨by simp[h],by omega,by omega⟩
def oz(p:Int->Bool)(l:List Int):Int:=match l.findIdx? p with|some i=>(i:Int)|none=>-1
def Bf(h:l[k]? =some x)(V:p x=true)(O:∀y∈l.take k,p y=false):oz p l=k:=by
 obtain⟨I,H⟩:=List.getElem?_eq_some_iff.1 h;have:l.findIdx? p=some k:=by rw[List.findIdx?_eq_some_iff_getElem];refine⟨I,by rw[H];exact V,λj Y=>?_⟩;have:=O l[j] (List.mem_take_iff_getElem.2 ⟨j,by omega,rfl⟩);simp[this]
 unfold oz;rw[this]
def yA(h:∀y∈l,p y=false):oz p l= -1:=by
 have:l.findIdx? p=none:=by rw[List.findIdx?_eq_none_iff];exact h
 unfold oz;rw[this]
def sQ(p:Int->Bool)(l:List Int):(decide (0<=oz p l)=l.any p)/\oz p l<l.length/\-1<=oz p l:=by
 unfold oz;cases h:l.findIdx? p with
 |none=>rw[List.findIdx?_eq_none_iff]at h;refine⟨?_,by show(-1:Int)<_;omega,by show(-1:Int)<=-1;omega⟩;symm;show _=decide ((0:Int)<=-1);rw[show decide ((0:Int)<=-1)=false from rfl,List.any_eq_false];intro x I H;rw[h x I]at H;cases H
 |some i=>rw[List.findIdx?_eq_some_iff_getElem]at h;obtain⟨hi,H,_⟩:=h;refine⟨?_,by show(i:Int)<_;omega,by show(-1:Int)<=(i:Int);omega⟩;rw[decide_eq_true (show(0:Int)<=(i:Int)by omega)];symm;rw[List.any_eq_true];exact⟨l[i],List.getElem_mem hi,H⟩
def mj(w:World)(v:Value)(l:List Int)(x:Int)(h:RdL w v 1 encI l):E 119 #[v,J x] w λe w'=>e= returned (J (fD l x))/\w=w':=by
  obtain⟨A,cap,rfl,l1,l2,V⟩:=h;have HR:=qh V;clear V;go_enter func119,ntmps119;go_wp2;go_loop [8] (λi=>∃k:Nat,i= J k/\k<=l.length/\x∉l.take k) (λi=>l.length-(intOf i).toNat);case atStart=>exact⟨0,rfl,by omega,by simp⟩
  case round=>
    obtain⟨k,rfl,hk,H⟩:=hrel;by_cases F':k<l.length
    . obtain⟨bl,off,rfl,KP,hc⟩:=HR.o ahp;obtain⟨y,Y⟩:=ai F';have c0:=hc k y Y 0 _ rfl;simp only[Nat.add_zero,Nat.mul_one]at c0;have I:=qh (And.intro Y H);clear hc Y H;cases O:(x==y)
      . have E':Kq (x∉l.take (k+1)):=qh (by
          rw[iR I.o.1];rintro(h|h);. exact I.o.2 h
          . rw[h]at O;simp at O)
        go_wp2;go_round;case rel=>exact⟨k+1,by go_num,by omega,E'.o⟩
        case measure=>simp[intOf];omega
      . have hid:Kq (fD l x=k):=qh (DZ (by rw[beq_iff_eq.1 O];exact I.o.1) I.o.2);go_wp2;go_ret;exact⟨aT hid.o.symm,rfl⟩
    . obtain rfl:k=l.length:=by omega
      rw[List.take_length]at H;have hid:Kq (fD l x= -1):=qh (By H);clear H;go_wp2;go_ret;exact⟨aT hid.o.symm,rfl⟩
def qL(w:World)(v:Value)(l:List Int)(x:Int)(h:RdL w v 1 encI l):E 87 #[v,J x] w λe w'=>e= returned (bool (decide (x∈l)))/\w=w':=by have O:=qh (mj w v l x h);have I:decide (x∈l)=decide (0<=fD l x):=decide_eq_decide.2 (eO l x).1.symm;have H:=qh I;clear h I;go_enter func87,ntmps87;go_wp2_with (go_at_call 119;refine O.o.mono ?_;rintro e w' ⟨rfl,rfl⟩);go_ret;exact⟨az H.o.symm,rfl⟩
def At(w:World)(b:Nat)(v:Value)(l:List Int)(x:Int)(hc:w.cell? b=some v)(h:RdL w v 1 encI l):E 86 #[J x,↑b] w λe w'=>e= returned (bool (!decide (x∈l)))/\w=w':=by have H:=qh (qL w v l x h);clear h;go_enter func86,ntmps86;go_wp2_with (go_at_call 87;refine H.o.mono ?_;rintro e w' ⟨rfl,rfl⟩);go_ret;exact⟨az ahq,rfl⟩
def Au(w:World)(b:Nat)(ve v:Value)(en l:List Int)(M9:w.cell? b=some ve)(QX:RdL w ve 1 encI en)(h:RdL w v 1 encI l):E 118 #[v,.func (.func 86) #[] #[↑b]] w λe w'=>e= returned (J (oz (λx=>!decide (x∈en)) l))/\w=w':=by
  obtain⟨A,cap,rfl,l1,l2,V⟩:=h;have HR:=qh V;have HE:=qh (And.intro M9 QX);clear V M9 QX;go_enter func118,ntmps118;go_wp2;go_loop [8] (λi=>∃k:Nat,i= J k/\k<=l.length/\∀x∈l.take k,(!decide (x∈en))=false) (λi=>l.length-(intOf i).toNat);case atStart=>exact⟨0,rfl,by omega,by simp⟩
  case round=>
    obtain⟨k,rfl,hk,I⟩:=hrel;by_cases F':k<l.length
    . obtain⟨bl,off,rfl,KP,hc⟩:=HR.o ahp;obtain⟨y,hy⟩:=ai F';have c0:=hc k y hy 0 _ rfl;simp only[Nat.add_zero,Nat.mul_one]at c0;have Y:=qh (And.intro hy I);clear hc hy I;have O:=qh (At w b ve en y HE.o.1 HE.o.2);cases H:(!decide (y∈en))
      . have E':Kq (∀x∈l.take (k+1),(!decide (x∈en))=false):=qh (by
          intro x hx;rcases(iR Y.o.1 x).1 hx with h|h
          . exact Y.o.2 x h
          . rw[h];exact H)
        rw[H]at O;clear H;go_wp2_with (go_at_call 86;refine O.o.mono ?_;rintro e w' ⟨rfl,rfl⟩);go_round;case rel=>exact⟨k+1,by go_num,by omega,E'.o⟩
        case measure=>simp[intOf];omega
      . have hid:Kq (oz (λx=>!decide (x∈en)) l=k):=qh (Bf Y.o.1 H Y.o.2);rw[H]at O;clear H;go_wp2_with (go_at_call 86;refine O.o.mono ?_;rintro e w' ⟨rfl,rfl⟩);go_ret;exact⟨aT hid.o.symm,rfl⟩
    . obtain rfl:k=l.length:=by omega
      rw[List.take_length]at I;have hid:Kq (oz (λx=>!decide (x∈en)) l= -1):=qh (yA I);clear I;go_wp2;go_ret;exact⟨aT hid.o.symm,rfl⟩
def mg(w:World)(b:Nat)(H v:Value)(en l:List Int)(I:w.cell? b=some H)(O:RdL w H 1 encI en)(h:RdL w v 1 encI l):E 85 #[v,.func (.func 86) #[] #[↑b]] w λe w'=>e= returned (bool (l.any λx=>!decide (x∈en)))/\w=w':=by have Y:=qh (Au w b H v en l I O h);have V:=qh (sQ (λx=>!decide (x∈en)) l).1;clear h I O;go_enter func85,ntmps85;go_wp2_with (go_at_call 118;refine Y.o.mono ?_;rintro e w' ⟨rfl,rfl⟩);go_ret;exact⟨az V.o,rfl⟩
end
section
open Go.RowKit
def j8{k:Nat}(H:k<n)(h:f k=false):(List.range n).all f=false:=by rw[List.all_eq_false];exact⟨k,List.mem_range.2 H,by simp[h]⟩
def um(w:World)(v:Value)(P:List Int)(h:RdL w v 1 encI P):E 82 #[v] w λe w'=>e= returned (bool (dT P))/\w=w':=by
  obtain⟨A,cap,rfl,l1,l2,V⟩:=h;have HR:=qh V;clear V;go_enter func82,ntmps82;go_wp2;go_loop [7] (λi=>∃k:Nat,i= J k/\k<=P.length/\(List.range k).all (okP P)=true) (λi=>P.length-(intOf i).toNat);case atStart=>exact⟨0,rfl,by omega,rfl⟩
  case round=>
    obtain⟨k,rfl,hk,Y⟩:=hrel;by_cases F':k<P.length
    . obtain⟨bl,off,rfl,KP,hc⟩:=HR.o ahp;obtain⟨p,hp⟩:=ai F';have c0:=hc k p hp 0 _ rfl;simp only[Nat.add_zero,Nat.mul_one]at c0;have HP:=qh (And.intro (bh hp) Y);clear hc hp Y;by_cases H:(k=0->p= -1)/\(0<k->0<=p/\p<k)
      . have I:Kq ((List.range (k+1)).all (okP P)=true):=qh (by
          rw[jO,HP.o.2];simp only[Bool.true_and]
          exact decide_eq_true (by rw[HP.o.1];exact H))
        by_cases O:k=0
        . have e1:=H.1 O;subst O;subst e1;simp only[Nat.add_zero]at c0;go_wp2;go_round;case rel=>exact⟨1,by rfl,by omega,I.o⟩
          case measure=>simp[intOf];omega
        . obtain⟨e1,e2⟩:=H.2 ahp;have t0:((k:Int)==0)=false:=(by rw[beq_eq_false_iff_ne];omega);have t1:decide (0<k)=true:=decide_eq_true ahp;have t2:decide (p<0)=false:=decide_eq_false ahp;have t3:decide ((k:Int)<=p)=false:=decide_eq_false ahp;clear H O;go_wp2;go_round;case rel=>exact⟨k+1,by go_num,by omega,I.o⟩
          case measure=>simp[intOf];omega
      . have I:Kq (dT P=false):=qh (j8 F' (decide_eq_false (by rw[HP.o.1];exact H)));by_cases O:k=0;. subst O;simp only[Nat.add_zero]at c0;have t1:(p != -1)=true:=(by rw[bne_iff_ne];intro h;exact H ⟨λ_=>h,by omega⟩);clear H;go_wp2;go_ret;exact⟨az I.o.symm,rfl⟩
        . have t0:((k:Int)==0)=false:=(by rw[beq_eq_false_iff_ne];omega);have t1:decide (0<k)=true:=decide_eq_true ahp;by_cases Kl:p<0;. clear H O;go_wp2;go_ret;exact⟨az I.o.symm,rfl⟩
          . have t3:decide ((k:Int)<=p)=true:=decide_eq_true ahp;have t2:decide (p<0)=false:=decide_eq_false ahp;clear H O;go_wp2;go_ret;exact⟨az I.o.symm,rfl⟩
    . obtain rfl:k=P.length:=by omega
      have I:Kq (dT P=true):=qh Y;clear Y;go_wp2;go_ret;exact⟨az I.o.symm,rfl⟩
def sM(b:Bool):List Value:=[.bool b]
def AZ(b:Bool):(sM b).length=1:=rfl
theorem Tryz.infoBool:(prog.info? 4).map (λi=>(i.zero,i.size,i.bytes))=some (some (bool false),1,1):=by kernel_rfl
theorem Tryz.infoIn:(prog.info? 3).map (λi=>(i.zero,i.size,i.bytes))=some (some (J 0),1,8):=by kernel_rfl
def kI(u:Value)(n:Nat):(madeCells #[u] n).toList=(List.range n).map λ_=>u:=by unfold madeCells;rw[Array.toList_map,Array.toList_range];refine List.map_congr_left λi _=>?_;simp[Nat.mod_one]
def tL{α:Type}(enc:α->Value)(l:List α):l.map enc=l.flatMap (λx=>[enc x]):=by
 induction l with
 |nil=>rfl
 |cons a l h=>rw[List.map_cons,List.flatMap_cons,h];rfl
def gq(P:List Int)(k:Nat):List Bool:=(List.range P.length).map fun(u:Nat)=>decide ((u:Int)∈P.take k)
def mn(P:List Int)(k:Nat):(gq P k).flatMap sM=(List.range P.length).map fun(u:Nat)=>Value.bool (decide ((u:Int)∈P.take k)):=by unfold gq;show List.flatMap (λx=>[Value.bool x]) _=_;rw[<-tL Value.bool,List.map_map];rfl
def kh(P:List Int)(k:Nat):(gq P k).length=P.length:=by simp[gq]
def yE(w:World)(v:Value)(P:List Int)(h:RdL w v 1 encI P)(ht:dT P=true)(Nq:P.length<=1000):E 117 #[v] w λe w'=>∃v',e= returned v'/\RdL w' v' 1 sM (gq P P.length)/\Below w.heap.size w w':=by
  obtain⟨i0,hi,J5,J7,J2⟩:=info_parts Tryz.infoBool;obtain⟨A,cap,rfl,l1,l2,V⟩:=h;have HR:=qh V;have HT:=qh ht;clear V ht;go_enter func117,ntmps117;go_wp2_with (refine wpList_make_full _ rfl (.tmp 7) (.tmp 7) 220 rfl w.heap.size 4 i0 (bool false) 1 Tryz.underlying220 hi J5 J7 .i64 .i64 P.length P.length P.length rfl rfl rfl rfl ?b2 ?b3 (Nat.le_refl _) ?_);case b2=>rw[J2];omega
  case b3=>unfold maxLen;omega
  intro w1 H hg;have OW:w1.ownsRow w.heap.size 4 1 (slice (some ⟨w.heap.size,0,none⟩) P.length P.length) P.length ((gq P 0).flatMap sM):=by rw[mn];have e:(madeCells #[Value.bool false] P.length).toList=(List.range P.length).map fun(u:Nat)=>Value.bool (decide ((u:Int)∈P.take 0)):=(by rw[kI];refine List.map_congr_left λi _=>by simp);rw[e]at H;exact H
  have Kg:Below w.heap.size w w1:=(Below.refl w.heap.size w).grown hg (Nat.le_refl _) (λj hj=>by cases hj);clear H hg;go_wp2;go_loopw [11] (λi wr=>∃k:Nat,i= J k/\k<=P.length/\wr.ownsRow w.heap.size 4 1 (slice (some ⟨w.heap.size,0,none⟩) P.length P.length) P.length ((gq P k).flatMap sM)/\Below w.heap.size w wr) (λi _=>P.length-(intOf i).toNat);case atStart=>exact⟨0,rfl,by omega,OW,Kg⟩
  case round=>
    clear OW Kg;obtain⟨k,rfl,hk,H,O⟩:=hrel;by_cases F':k<P.length
    . obtain⟨bl,off,rfl,KP,hc⟩:=HR.o ahp;obtain⟨p,hp⟩:=ai F';have c0:=(O.cell (p:=⟨bl,off+k*1+0,none⟩) KP).trans (hc k p hp 0 _ rfl);simp only[Nat.add_zero,Nat.mul_one]at c0;have Pw:=gC HT.o hp;have HP:=qh hp;clear hc hp;by_cases h0:0<=p
      . have f0:=H.frozenAt p.toNat;have g0:=H.cellAt p.toNat ahp;have Ol:=(H.lt _ rfl).2;have J0:=H.stored p.toNat (bool true)
        have Y:Kq (∀W:World,W.ownsRow w.heap.size 4 1 (slice (some ⟨w.heap.size,0,none⟩) P.length P.length) P.length (((gq P k).flatMap sM).set p.toNat (bool true))->W.ownsRow w.heap.size 4 1 (slice (some ⟨w.heap.size,0,none⟩) P.length P.length) P.length ((gq P (k+1)).flatMap sM)):=qh λW hW=>by
          rw[mn]at hW ⊢
          rw[ql P.length p.toNat _ (fun(u:Nat)=>Value.bool (decide ((u:Int)∈P.take (k+1)))) (bool true) (by
            show Value.bool (decide (((p.toNat:Nat):Int)∈P.take (k+1)))=_
            rw[decide_eq_true ((iR HP.o _).2 (.inr ahp))]) (λj hj=>by
            show Value.bool (decide ((j:Int)∈P.take (k+1)))=Value.bool (decide ((j:Int)∈P.take k));congr 1;refine decide_eq_decide.2 ?_;rw[iR HP.o]
            exact⟨λh=>h.elim id (λh=>by omega),.inl⟩)]at hW
          exact hW
        obtain⟨u,hu⟩:∃u,((gq P k).flatMap sM)[p.toNat]? =some u:=by rw[mn,i1 _ _ _ ahp];exact⟨_,rfl⟩
        rw[hu]at g0;obtain⟨m,rfl⟩:=Int.eq_ofNat_of_zero_le h0;simp only[Int.toNat_natCast]at f0 g0 J0 Y;have I:=qh (And.intro J0 O);clear hu J0 O H;go_wp2;go_roundw;case rel=>exact⟨k+1,by go_num,by omega,Y.o _ I.o.1.1,I.o.2.setCell (Nat.le_refl _) _⟩
        case measure=>simp[intOf];omega
      . have Y:Kq (gq P (k+1)=gq P k):=qh (by
          unfold gq;refine List.map_congr_left λu _=>decide_eq_decide.2 ?_;rw[iR HP.o]
          exact⟨λh=>h.elim id (λh=>by omega),.inl⟩)
        have I:=qh (And.intro H O);clear H O;go_wp2;go_roundw;case rel=>exact⟨k+1,by go_num,by omega,by rw[Y.o];exact I.o.1,I.o.2⟩
        case measure=>simp[intOf];omega
    . obtain rfl:k=P.length:=by omega
      have I:=qh (And.intro H O);clear H O;go_wp2;go_ret;exact⟨_,rfl,RdL.of_own AZ (kh P _).symm (by rw[kh];omega) I.o.1,I.o.2⟩
end
section
open Go.RowKit
variable{a g:Nat}{s:Ar}
def pQ{f:FuncId}{h:Func}(Y:P.funcs[f]? =some h)(O:(h.name== "runtime.NumGoroutine")=false)(I:h.body.isNone=true)(hn:Extern.findNext h=none)(k:IntKind)(V:Extern.find h=some (Extern.Atomic.swapT (.int k))){a:Addr}{y:Int}(hc:w.cell? a=some (.int k x))(hz:w.frozen? a=false):(callFunc f #[.pointer (some a),.int k y]).run P w= .ok (.value (.int k x)) (w.setCell a (.int k y)):=by
  rw[run_callFunc_extern Y O I hn V]
  change (Sem.run P (do
    let H <-asAddr (.pointer (some a))
    let old <-Extern.Atomic.read (.int k) H
    store H (.int k y) .atomic
    pure old) w).andThen _=_
  simp[Extern.Atomic.read,asAddr,hc,hz,run_store P w a (.int k y) .atomic rfl,Result.andThen]
def EV(w:World)(p:Addr)(x:Int)(hc:w.cell? p=some (J x))(h:p.spot=none):E 113 #[.pointer (some p)] w λe w'=>e= returned (J x)/\w=w':=by obtain⟨b,o,sp⟩:=p;obtain rfl:sp=none:=h;have H:=run_call_load (P:=prog) func157 ahs ahs ahs .i64 ahs hc;clear hc;go_enter func113,ntmps113;go_wp2;go_ret;exact⟨rfl,rfl⟩
def G0(w:World)(b o:Nat)(x y:Int)(hc:Z w b o (J x))(h:w.frozen? ⟨b,o,none⟩=false):E 273 #[pointer (some ⟨b,o,none⟩),J y] w λe w'=>e= returned (J x)/\w'=w.setCell ⟨b,o,none⟩ (J y):=by have H:=pQ (P:=prog) func275 ahs ahs ahs .i64 ahs (y:=y) hc h;go_enter func273,ntmps273;go_wp2;go_ret;exact⟨rfl,rfl⟩
def aB.put(h:aB w a g s)(H:inR s.W x=true)(v:Int):aB (w.setCell ⟨g,x.toNat-1,none⟩ (J v)) a g (wrA s x v)/\aa [a,g] w (w.setCell ⟨g,x.toNat-1,none⟩ (J v)):=by
  have I:=aR.1 H;refine⟨⟨?_,?_,h.ne,?_,h.room,h.ops⟩,(aa.refl _ _).setCell (.inl ahq) _⟩;. have:=h.blk.far (p:=⟨g,x.toNat-1,none⟩) h.ne (J v);have e:gw g (wrA s x v)=gw g s:=(by unfold gw wrA;rw[bJ]);rw[e];exact this
  . have:=h.wds.set_ (x.toNat-1) (J v);rw[EQ s ahp]at this;have e:wrA s x v={s with W:=s.W.set (x.toNat-1) v}:=(by unfold wrA stW;rw[if_pos H]);rw[e];exact this
  . show(stW s.W x v).length<=_;rw[bJ];exact h.le
def i9(h:aa [a] w w'):aa [a,g] w w':=h.mono ahq
def eY(w:World)(a g:Nat)(s':Ar)(r:Value)(e:Ending)(w':World):Prop:=e= returned r/\aB w' a g s'/\aa [a,g] w w'
def aE(h:aB w a g s)(x:Int)(Y:s.ops+1<=1000000000000):E 173 #[↑a,J x] w (eY w a g (af s x) (J (ldW s.W x))):=by
  have H:=qh h;cases I:inR s.W x;. have e:eY w a g (af s x) (J (ldW s.W x)) (returned (J 0)) w:=⟨by rw[kY I],by unfold af;rw[iW s _ _ _ I];exact h,aa.refl _ _⟩;have HX:=qh I;clear h I;go_enter func173,ntmps173;go_wp2_with fail;refine LT (j7 H.o x HX.o) ?_;go_wp2;go_ret;exact e
  . have HX:=qh I;have O:=qh (jh I);have Pm:=aR.1 I;have Mv:x.toNat-1<s.W.length:=(by omega);clear h I;go_enter func173,ntmps173;go_wp2_with fail;refine LT (ks H.o x HX.o) ?_;go_wp2_with fail;refine Pi (iX H.o 1 x false HX.o Y) λw1 h1=>?_;have hc:=(h1.o.1.word (i:=x.toNat-1) (by rw[dL];exact Mv)).1;rw[dL]at hc;have H1:=qh (And.intro h1.o.1 h1.o.2);go_wp2_with fail;refine LT (EV _ _ _ hc rfl) ?_;clear hc;rw[<-O.o];obtain⟨r,V⟩:=LE (ldW s.W x);rw[<-V];have HR:=qh V;clear V;go_wp2;go_ret;exact⟨by rw[HR.o];rfl,H1.o.1,i9 H1.o.2⟩
def fh(h:aB w a g s)(x v:Int)(Y:s.ops+1<=1000000000000):E 271 #[↑a,J x,J v] w (eY w a g (ch s x v) (J (ldW s.W x))):=by
  have H:=qh h;cases I:inR s.W x;. have e:eY w a g (ch s x v) (J (ldW s.W x)) (returned (J 0)) w:=⟨by rw[kY I],by unfold ch;rw[iW s _ _ _ I,rR s _ _ I];exact h,aa.refl _ _⟩;have HX:=qh I;clear h I;go_enter func271,ntmps271;go_wp2_with fail;refine LT (j7 H.o x HX.o) ?_;go_wp2;go_ret;exact e
  . have HX:=qh I;have HE:=qh (jh I);have Pm:=aR.1 I;have Mv:x.toNat-1<s.W.length:=(by omega);clear h I;go_enter func271,ntmps271;go_wp2_with fail;refine LT (ks H.o x HX.o) ?_;go_wp2_with fail;refine Pi (iX H.o 3 x true HX.o Y) λw1 h1=>?_;have hc:=h1.o.1.word (i:=x.toNat-1) (by rw[dL];exact Mv);rw[dL]at hc;have hp:=h1.o.1.put (x:=x) (by rw[dL];exact HX.o) v;have H1:=qh (And.intro hp h1.o.2);have O:=qh hc;clear hp hc;go_wp2_with fail;refine LT (G0 _ _ _ _ _ O.o.1 O.o.2) ?_;rw[<-HE.o];obtain⟨r,V⟩:=LE (ldW s.W x);rw[<-V];have HR:=qh V;clear V;go_wp2;go_ret;exact⟨by rw[HR.o];rfl,H1.o.1.1,(i9 H1.o.2).trans H1.o.1.2⟩
end
section
open Go.RowKit
theorem Tryz.infoAt:(prog.info? 216).map (λi=>(i.zero,i.size,i.bytes))=some (some (agg #[J 0]),1,8):=by kernel_rfl
def mG(u:Value)(n:Nat):(madeCells #[u] n).toList=List.replicate n u:=by
 unfold madeCells;rw[Array.toList_map,Array.toList_range];refine List.ext_getElem? λi=>?_;rw[List.getElem?_map,List.getElem?_replicate];by_cases h:i<n;.rw[List.getElem?_range h,if_pos h];simp[Nat.mod_one]
 .rw[if_neg h];simp;omega
def gA{g:Nat}(h:w.ownsRow base e sz (slice (some ⟨g,0,none⟩) n n) n xs):Blk w g e xs.toArray:=by
 rcases h.2 with⟨H,_⟩|⟨g',Vx,V,H,I,hg,Sq,QS,O,ht⟩
 .simp at H
 .simp only[Value.slice.injEq,Option.some.injEq,Addr.mk.injEq,and_true,true_and]at H;obtain⟨rfl,rfl⟩:=H;have Y:V=xs.toArray:=by rw[<-ht];apply Array.ext';rw[List.take_of_length_le (by rw[Array.length_toList,O];exact Nat.le_refl _)]
  unfold Blk;rw[hg,Y]
def lM(room:Int):Nat:=if room<0 then 0 else if 4096<room then 4096 else room.toNat
def dP(room:Int):Ar:=⟨[],lM room,0,0,0,false⟩
def Jn(w:World)(room:Int)(e:Ending)(w':World):Prop:=∃a g,e= returned (pointer (some ⟨a,0,none⟩))/\aB w' a g (dP room)/\w.heap.size<=a/\w.heap.size<=g/\Below w.heap.size w w'
def tP(w:World)(room:Int):E 12 #[J room] w (Jn w room):=by
  obtain⟨i0,hi,J5,J7,Y⟩:=info_parts Tryz.infoAt;obtain⟨n,V⟩:=LE (lM room);have hc:n<=4096:=by rw[V];unfold lM;split<;>(try split)<;>omega
  have HN:=qh V
  have key:∀(w1:World),w1.ownsRow w.heap.size 216 1 (slice (some ⟨w.heap.size,0,none⟩) n n) n (madeCells #[J 0] n).toList->w.grownBy w1 none->
      aB (w1.alloc (cells #[slice (some ⟨w.heap.size,0,none⟩) n n,J 0,J 0,J 0,J 0,bool false] 106)) w1.heap.size w.heap.size (dP room)/\w.heap.size<=w1.heap.size/\Below w.heap.size w (w1.alloc (cells #[slice (some ⟨w.heap.size,0,none⟩) n n,J 0,J 0,J 0,J 0,bool false] 106)):=by
    intro w1 H hg
    rw[mG]at H
    have I:=gA H
    have F':=I.lt
    refine⟨⟨?_,?_,by omega,by simp[dP],by simp[dP];omega,by simp[dP]⟩,by omega,((Below.refl w.heap.size w).grown hg (Nat.le_refl _) (λj hj=>by cases hj)).alloc ahp _⟩
    . have:=Blk.new w1 106 (gw w.heap.size (dP room))
      unfold gw dP at this ⊢
      rw[<-HN.o]at this ⊢
      simpa using this
    . have e:(wdL (dP room)).toArray=(List.replicate n (Value.int .i64 0)).toArray:=by unfold wdL dP;simp[<-HN.o]
      rw[e]
      exact I.alloc _
  have Tr:=qh key;clear key;rcases(show 4096<room\/(room<=4096/\0<room)\/room<=0 by omega)with h|⟨h,h'⟩|h
  . have O:Kq ((4096:Int)=(n:Int)):=qh (by rw[V];unfold lM;rw[if_neg ahp,if_pos h];rfl);clear V;go_enter func12,ntmps12;go_wp2_with (refine wpList_make_full _ rfl (.tmp 5) (.tmp 5) 102 rfl w.heap.size 216 i0 (agg #[J 0]) 1 Tryz.underlying102 hi J5 J7 .i64 .i64 4096 4096 n rfl rfl O.o O.o ?b2 ?b3 (Nat.le_refl _) ?_);case b2=>rw[Y];omega
    case b3=>unfold maxLen;omega
    intro w1 H hg;obtain⟨k1,k2,k3⟩:=Tr.o w1 H hg;clear H hg;go_wp2;go_ret;exact⟨_,_,rfl,k1,k2,Nat.le_refl _,k3⟩
  . have O:Kq (room=(n:Int)):=qh (by rw[V];unfold lM;rw[if_neg ahp,if_neg ahp];omega);clear V;go_enter func12,ntmps12;go_wp2_with (refine wpList_make_full _ rfl (.tmp 5) (.tmp 5) 102 rfl w.heap.size 216 i0 (agg #[J 0]) 1 Tryz.underlying102 hi J5 J7 .i64 .i64 room room n rfl rfl O.o O.o ?b2 ?b3 (Nat.le_refl _) ?_);case b2=>rw[Y];omega
    case b3=>unfold maxLen;omega
    intro w1 H hg;obtain⟨k1,k2,k3⟩:=Tr.o w1 H hg;clear H hg;go_wp2;go_ret;exact⟨_,_,rfl,k1,k2,Nat.le_refl _,k3⟩
  . have O:Kq ((0:Int)=(n:Int)):=qh (by rw[V];unfold lM;split<;>(try split)<;>omega);have h4:room<=4096:=(by omega);clear V;go_enter func12,ntmps12;go_wp2_with (refine wpList_make_full _ rfl (.tmp 5) (.tmp 5) 102 rfl w.heap.size 216 i0 (agg #[J 0]) 1 Tryz.underlying102 hi J5 J7 .i64 .i64 0 0 n rfl rfl O.o O.o ?b2 ?b3 (Nat.le_refl _) ?_);case b2=>rw[Y];omega
    case b3=>unfold maxLen;omega
    intro w1 H hg;obtain⟨k1,k2,k3⟩:=Tr.o w1 H hg;clear H hg;go_wp2;go_ret;exact⟨_,_,rfl,k1,k2,Nat.le_refl _,k3⟩
def d7(s:Ar)(n:Int):Ar×Int×Int:=
 if n<0 then(s,(0:Int),(1:Int))else if (s.room:Int)-s.W.length<n then(s,(0:Int),(3:Int))else({s with W:=s.W++List.replicate n.toNat 0},(s.W.length:Int)+1,(0:Int))
def Fj(w:World)(a g:Nat)(x:Ar×Int×Int)(e:Ending)(w':World):Prop:=e= returned (tuple #[J x.2.1,J x.2.2])/\aB w' a g x.1/\aa [a] w w'
def gh{a g:Nat}{s:Ar}(h:aB w a g s)(n:Int):E 139 #[↑a,J n] w (Fj w a g (d7 s n)):=by
  have H:=qh h;have c0:=h.c0;have c1:=h.c1;have f1:=h.blk.free 1;have MO:=h.le;have Ow:=h.room;have F':=h.blk.lt;clear h;by_cases V:n<0;. have e:d7 s n=(s,(0:Int),(1:Int)):=(by unfold d7;rw[if_pos V]);have O:=qh e;clear e;go_enter func139,ntmps139;go_wp2;go_ret2;rw[O.o];exact⟨rfl,H.o,aa.refl _ _⟩
  . by_cases h1:(s.room:Int)-s.W.length<n;. have e:d7 s n=(s,(0:Int),(3:Int)):=(by unfold d7;rw[if_neg V,if_pos h1]);have O:=qh e;have Y:IntKind.i64.wrap ((s.room:Int)-s.W.length)=(s.room:Int)-s.W.length:=IntWalk.i64_in _ ahp;clear e;go_enter func139,ntmps139;go_wp2;go_quiet (fail);go_wp2;go_ret2;rw[O.o];exact⟨rfl,H.o.turns (S:=[]) ((aa.refl _ _).drewN _) ahq ahq,(aa.refl _ _).drewN _⟩
    . have e:d7 s n=({s with W:=s.W++List.replicate n.toNat 0},(s.W.length:Int)+1,(0:Int)):=(by unfold d7;rw[if_neg V,if_neg h1]);have O:=qh e;have Y:IntKind.i64.wrap ((s.room:Int)-s.W.length)=(s.room:Int)-s.W.length:=IntWalk.i64_in _ ahp;have h2:n<=4096:=(by omega);clear e;go_enter func139,ntmps139;go_wp2;go_quiet (fail);clear Y;go_wp2;go_ret2;rw[O.o];obtain⟨m,rfl⟩:=Int.eq_ofNat_of_zero_le (show 0<=n by omega);have I:=(H.o.blk.drewN nq).set_ 1 (J (s.W.length+m));have hw:=(H.o.wds.drewN nq).far (p:=⟨a,1,none⟩) H.o.ne.symm (J (s.W.length+m));refine⟨rfl,⟨?_,?_,H.o.ne,by simp;omega,Ow,H.o.ops⟩,((aa.refl _ _).drewN _).setCell (.inl ahq) _⟩;. have e:gw g ({s with W:=s.W++List.replicate ((m:Int).toNat) 0})=(gw g s).setIfInBounds 1 (J (s.W.length+m)):=(by unfold gw;simp);rw[e];exact I
      . have e:wdL {s with W:=s.W++List.replicate ((m:Int).toNat) 0}=wdL s:=(by unfold wdL;congr 1;rw[List.append_assoc,List.append_cancel_left_eq,List.replicate_append_replicate];congr 1;simp;omega);rw[e];exact hw
end
section
open Go Go.RowKit Go.Maps
def nO(w:World)(t:TypeId)(u:Value){g:Nat}(hg:g=w.heap.size):∀j x,[u][j]? =some x->(w.alloc (cells #[u] t)).cell? ((⟨g,0,none⟩:Addr).add j)=some x:=by intro j x h;subst hg;refine ajX ?_;intro Ly;simpa using h
def GL{a g:Nat}{s:Ar}(h:aB w a g s):E 64 #[↑a] w λe w'=>∃v,e= returned v/\RdL w' v 1 encI s.W/\(∀q,v.ownBlock=some q->w.heap.size<=q)/\Below w.heap.size w w':=by
  obtain⟨i0,hi,J5,J7,J2⟩:=info_parts Tryz.infoIn;have MO:=h.le;have Ow:=h.room;have H:=qh h;have c0:=h.c0;have Ns:=h.blk.lt;clear h;go_enter func64,ntmps64;go_wp2_with fail;refine LT (nj H.o) ?_;go_wp2;go_loopw [3,7] (λv i wr=>∃(k:Nat),i= J k/\k<=s.W.length/\wr.ownsRow w.heap.size 3 1 v k ((s.W.take k).flatMap encI)/\Below w.heap.size w wr) (λ_ i _=>s.W.length-(intOf i).toNat);case atStart=>exact⟨0,rfl,by omega,World.ownsRow_nil _ _ _ _,Below.refl _ _⟩
  case round=>
    obtain⟨k,rfl,hk,O,I⟩:=hrel;have Y:=H.o.turns (S:=[]) (aa.of_below I) ahq ahq;by_cases F':k<s.W.length
    . obtain⟨A',cp,rfl⟩:=a8 O;have c1:=Y.c0;have UC:=(Y.word (i:=k) F').1;have Ki:=I.size;have ab:(k:Int)<s.room:=(by omega);have V:=qh (And.intro I Y);obtain⟨z,hz⟩:=LE (s.W.getD k 0);rw[<-hz]at UC;have Kv:s.W[k]? =some z:=(by rw[hz,List.getD_eq_getElem?_getD,List.getElem?_eq_getElem F'];rfl);have HZ:=qh Kv;have Yp:=qh UC;clear I Y hz Kv UC c0;go_wp2_with fail;refine LT (EV _ _ z Yp.o rfl) ?_;go_wp2_with (at_builtin;refine wpList_append_own _ rfl _ _ 22 rfl w.heap.size 3 i0 (J 0) 1 8 Tryz.underlying22 hi J5 J7 J2 rfl ahr _ _ _ rfl (O.alloc _) ⟨wr.heap.size,0,none⟩ 1 1 (encI z) rfl rfl (nO wr 3 (J z) rfl) (by intro u hu;simp[encI]at hu;subst hu;rfl) ?c3 ?c4 ?c5 ?_);case c3=>unfold maxLen;omega
      case c4=>omega
      case c5=>simp;omega
      intro v' w2 h2 Lr _;have h3:w2.ownsRow w.heap.size 3 1 v' (k+1) ((s.W.take (k+1)).flatMap encI):=(by rw[a7 HZ.o,List.flatMap_append];simpa using h2);have HF:=qh (And.intro h3 ((V.o.1.alloc Ki (cells #[J z] 3)).grown Lr ahu (λj hj=>(O.lt j hj).1)));clear h2 Lr h3 O;go_wp2;go_roundw;case rel=>first|exact⟨k+1,by go_num,by omega,HF.o.1,HF.o.2⟩|((repeat apply Exists.intro);exact⟨⟨k+1,by go_num,by omega,HF.o.1,HF.o.2⟩,rfl⟩)
      case measure=>simp[intOf];omega
    . obtain rfl:k=s.W.length:=by omega
      rw[List.take_length]at O;have V:=qh (And.intro O I);clear O I Y;go_wp2;go_ret;exact⟨_,rfl,RdL.of_own jE rfl ahp V.o.1,λq hq=>(V.o.1.lt q hq).1,V.o.2⟩
def RdL.farT{α:Type}{enc:α->List Value}{l:List α}(h:RdL w v sz enc l)(t:aa S w w')(O:∀q,v.ownBlock=some q->q∉S):RdL w' v sz enc l:=by obtain⟨A,cap,h1,H,V,Y⟩:=h;refine⟨A,cap,h1,H,V,λhn=>?_⟩;obtain⟨b,off,e,I,hc⟩:=Y hn;refine⟨b,off,e,Nat.lt_of_lt_of_le I t.size,λi x hx j u hu=>(t.cellC I (O b (by rw[h1,e];rfl))).trans (hc i x hx j u hu)⟩
section
variable{M:LkM n}{X:WoB M}{st C':M.σ}
def C5(G:M.Good)(h:bj X w st):E 24 #[lkP X.wb] w λe w'=>∃v,e= returned v/\RdL w' v 1 encI (M.ar st).W/\(∀q,v.ownBlock=some q->w.heap.size<=q)/\Below w.heap.size w w':=by have c2:=h.wd.cell 0;have H:=qh (GL (G.ais _ _ _ _ _ _ h.is));unfold lkP at *;clear h;go_enter func24,ntmps24;go_wp2_with fail;refine H.o.mono ?_;rintro en w' ⟨v,rfl,O⟩;have I:=qh O;clear O;go_wp2;go_ret;exact⟨v,rfl,I.o⟩
end
end
section
open Go.RowKit
variable{P T:List Int}{k:Nat}{v:Int}
def evL(P:List Int)(l:List Int):Bool:=l.all λv=>decide (depL P v=depL P (l.headD 0)/\depL P v<=5)
def sP(P:List Int):ky P=evL P (ac P):=rfl
def sO(P:List Int)(l:List Int)(x:Int):evL P (l++[x])=(evL P l&&decide (depL P x=depL P ((l++[x]).headD 0)/\depL P x<=5)):=by
 unfold evL;rw[List.all_append];cases l with
 |nil=>simp
 |cons a l=>simp
def uP(P:List Int)(l m:List Int)(h:evL P (l++m)=true):evL P l=true:=by
 unfold evL at *;rw[List.all_append,Bool.and_eq_true]at h;cases l with
 |nil=>rfl
 |cons a l=>exact h.1
def xf{m:List Int}(h:evL P l=false):evL P (l++m)=false:=by
 cases H:evL P (l++m);.rfl
 .rw[uP P l m H]at h;cases h
def jt(P:List Int)(k:Nat):∀m,∃r,ak P (k+m)=ak P k++r
 |0=>⟨[],by simp⟩
 |m+1=>by
  obtain⟨r,V⟩:=jt P k m;rw[<-Nat.add_assoc,cz];split;.exact⟨r++[((k+m:Nat):Int)],by rw[V,List.append_assoc]⟩
  .exact⟨r,V⟩
def pO(P:List Int)(h:k<=P.length):∃r,ac P=ak P k++r:=by obtain⟨r,V⟩:=jt P k (P.length-k);exact⟨r,by rw[<-V];unfold ac;congr 1;omega⟩
def Ba(h:k<=P.length)(I:evL P (ak P k)=false):ky P=false:=by obtain⟨r,V⟩:=pO P h;rw[sP,V];exact xf I
def oq(h:k<P.length):1<=depL P k:=by unfold depL;obtain⟨n,H⟩:∃n,P.length=n+1:=⟨P.length-1,by omega⟩;rw[H];unfold dep;rw[if_pos ahp];omega
def first(P:List Int)(k:Nat):Nat:=if ak P k=[]then 0 else depL P ((ak P k).headD 0)
def uS(h:dk P k=false):first P (k+1)=first P k:=by unfold first;rw[cz,h];rfl
def ji(h:dk P v=true):0<=v/\v<P.length/\v∉P:=by simpa[dk]using h
def gy(h:v∈ak P k):dk P v=true/\0<=v/\v<k:=by unfold ak at h;rw[List.mem_filter,List.mem_map]at h;obtain⟨⟨a,I,rfl⟩,H⟩:=h;have:=List.mem_range.1 I;exact⟨H,by show(0:Int)<=(a:Int);omega,by show((a:Nat):Int)<k;omega⟩
def yB(I:k<=P.length)(h:ak P k≠[]):1<=first P k:=by
 unfold first
 rw[if_neg h];cases H:ak P k with
 |nil=>exact absurd H h
 |cons a l=>have:=(gy (P:=P) (k:=k) (v:=a) (by rw[H];simp)).2;obtain⟨n,rfl⟩:=Int.eq_ofNat_of_zero_le this.1;show 1<=depL P (n:Int);exact oq ahp
def uT(V:k<P.length)(h:dk P k=true):first P (k+1)=(if first P k=0 then depL P k else first P k)/\
    evL P (ak P (k+1))=(evL P (ak P k)&&decide (depL P k=first P (k+1)/\depL P k<=5)):=by
  have e:ak P (k+1)=ak P k++[(k:Int)]:=by rw[cz,if_pos h]
  have I:first P (k+1)=depL P ((ak P k++[(k:Int)]).headD 0):=by unfold first;rw[e,if_neg ahq]
  refine⟨?_,by rw[e,sO,I]⟩;by_cases H:ak P k=[];. have:first P k=0:=(by unfold first;rw[if_pos H]);rw[if_pos this,I,H];rfl
  . have:=yB ahp H;rw[if_neg ahp,I];unfold first
    rw[if_neg H];cases O:ak P k with
    | nil=>exact absurd O H
    | cons a l=>rfl
def EN(P T:List Int):T.any (λx=>!decide (x∈ac P))=!thrB P T:=by
 unfold thrB;rw[List.not_all_eq_any_not];congr 1;funext x;congr 1;cases h:dk P x;.exact decide_eq_false λhm=>by rw[fE.1 hm]at h;cases h
 .exact decide_eq_true (fE.2 h)
def aQ(h:a5 P T=0):jK P T=false/\dT P=true/\ky P=true/\thrB P T=true:=by
 unfold a5 at h;cases h1:jK P T
 .cases H:dT P;.rw[h1,H]at h;simp at h
  .cases I:ky P;.rw[h1,H,I]at h;simp at h
   .cases O:thrB P T;.rw[h1,H,I,O]at h;simp at h
    .exact⟨rfl,rfl,rfl,rfl⟩
 .rw[h1]at h;simp at h
def bi(h:jK P T=false):1<=P.length/\P.length<=32/\1<=T.length/\T.length<=32:=by simp only[jK,decide_eq_false_iff_not]at h;omega
def jo(h:thrB P T=true)(hi:T[i]? =some x):x∈ac P:=by unfold thrB at h;rw[List.all_eq_true]at h;exact fE.2 (h x (List.mem_of_getElem? hi))
def je(P T:List Int):Int:=if a5 P T=0 then((depL P ((ac P).headD 0):Nat):Int)else 0
def DB(h:a5 P T=0)(O:v∈ac P):((depL P v:Nat):Int)=je P T:=by obtain⟨_,_,H,_⟩:=aQ h;unfold je;rw[if_pos h];unfold ky at H;rw[List.all_eq_true]at H;have:=H v O;simp only[decide_eq_true_eq]at this;rw[this.1]
def tv(P T:List Int):List Int:=if a5 P T=0 then ac P else[]
end
section
open Go.RowKit
def rF(w:World)(v1 v2:Value)(a:List Ev)(h1:RdL w v1 4 encE a)(h2:RdL w v2 4 encE a):E 36 #[v1,v2] w λe w'=>e= returned (bool true)/\Qt w w':=by
  obtain⟨A1,c1,rfl,l1,m1,V⟩:=h1;obtain⟨A2,c2,rfl,l2,m2,Y⟩:=h2;go_enter func36,ntmps36;go_wp2_with fail;go_loopw [5] (λi w'=>∃k n:Nat,k<=a.length/\i= J k/\w'=w.drewN n) (λi _=>a.length-(intOf i).toNat);case atStart=>exact⟨0,0,by omega,rfl,rfl⟩
  case round=>
    obtain⟨k,n,hk,rfl,rfl⟩:=hrel;by_cases F':k<a.length
    . obtain⟨b1,o1,rfl,Kg,H⟩:=V ahp;obtain⟨b2,o2,rfl,M6,I⟩:=Y ahp;obtain⟨⟨x0,x1,x2,x3⟩,h⟩:=ai F';have p0:=H k _ h 0 _ rfl;have p1:=H k _ h 1 _ rfl;have p2:=H k _ h 2 _ rfl;have p3:=H k _ h 3 _ rfl;have O:=I k _ h 0 _ rfl;have q1:=I k _ h 1 _ rfl;have q2:=I k _ h 2 _ rfl;have q3:=I k _ h 3 _ rfl;simp only[Nat.add_zero]at p0 O;dsimp only at p0 O p1 q1 p2 q2 p3 q3;clear V Y H I h;go_wp2;go_quiet (fail);go_wp2;go_roundw;case rel=>exact⟨k+1,n+nq,by omega,by go_num,by first|rfl|rw[World.drewN_drewN]⟩
      case measure=>simp[intOf];omega
    . obtain rfl:k=a.length:=by omega
      go_wp2;go_ret;exact⟨rfl,n,rfl⟩
end
section
open Go Go.RowKit
@[go_sem] theorem Hq:prog.eqGuardType prog.depth 129=false:=by kernel_rfl
section
variable{sb ab:Nat}{L:List (Int×Bool)}
end
end
section
open Go.RowKit
def askS(S:List Sp)(i:Int):List Sp:=if okI S i/\(getS S i).pc=0 then S.set i.toNat ⟨1,1,0,0⟩else S
end
end Go.Proofs.YtglokdbiggbkjaaGreat
