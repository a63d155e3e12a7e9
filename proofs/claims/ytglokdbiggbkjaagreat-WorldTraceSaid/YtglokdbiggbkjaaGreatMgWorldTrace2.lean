/- Joined texts. -/
import Derived.WalkKit
import Derived.WalkSpells
import Derived.WalkLawsBesides
import Derived.ProofKit
import Derived.Below
import Derived.Outline
import Derived.Lib.Hide
import Derived.Deep.QuietTactic
import Derived.BigQuiet
import Derived.Deep.Draws
import Derived.Maps.OwnSet
import Derived.Maps.OwnOps
import Derived.Test.YtglokdbiggbkjaaGreatRows
import Derived.OpenShut
import Derived.Deep.Slices
import Derived.Deep.Fields
import Derived.ChangeSame
import Derived.Carry
import GoSem.Core.View
import Derived.RegionCalls
import Derived.StillTailTactics
import Derived.Laws.LoneSync
import Derived.Laws.OwnMore
import Derived.OwnWalk
import Derived.Deep.RegionHeld3
import Derived.Handy
import Derived.Test.YtglokdbiggbkjaaGreatMgWorldTrace0
set_option linter.unusedVariables false
set_option linter.unusedSimpArgs false
set_option linter.defProp false
set_option maxRecDepth 100000
set_option maxHeartbeats 16000000
open Go.Proofs.Tryz
namespace Go.Proofs.YtglokdbiggbkjaaGreat
open Go.IntKind(i64)
open Go.Value(int bool slice agg tuple pointer)
open Go.Ending(returned)
open Go.Obj(cells)
variable{P:Program}{B sz base n Nr b0 i N H:Nat}{w w':World}{v:Value}{e t:TypeId}{args cs:Array Value}{p:Addr}{xs:List Value}{Pt:Nat->Bool}{Pf:Bool}{S T:List Nat}{x:Int}
section
open Go.RowKit
variable{f:FuncId}
def RdL{α:Type}(w:World)(v:Value)(sz:Nat)(enc:α->List Value)(l:List α):Prop:=
 ∃A cap,v= .slice A l.length cap/\l.length<=cap/\l.length<=140737488355328/\
  (0<l.length->∃b off,A=some ⟨b,off,none⟩/\b<w.heap.size/\∀i x,l[i]? =some x->∀j u,(enc x)[j]? =some u->Z w b (off+i*sz+j) u)
def Qt(w w':World):Prop:=∃n,w'=w.drewN n
def Qt.refl(w:World):Qt w w:=⟨0,rfl⟩
def Qt.trans{a b c:World}(h:Qt a b)(k:Qt b c):Qt a c:=by obtain⟨n,rfl⟩:=h;obtain⟨m,rfl⟩:=k;exact⟨n+m,by rw[World.drewN_drewN]⟩
def bO{a:World}(h:Below B a w)(n:Nat):Below B a (w.drewN n):=⟨h.os,h.tape,h.output,h.size,h.block⟩
def Qt.below(h:Qt w w')(B:Nat):Below B w w':=by obtain⟨n,rfl⟩:=h;exact bO (Below.refl _ _) n
def aM{a:Addr}(h:w.cell? a=some v):a.block<w.heap.size:=World.block_lt_of_cell? w a h
section
variable{α:Type}{enc:α->List Value}{l:List α}
def RdL.keep(h:RdL w v sz enc l)(hs:w.heap.size<=w'.heap.size)(Y:∀p:Addr,p.block<w.heap.size->w'.cell? p=w.cell? p):RdL w' v sz enc l:=by obtain⟨A,cap,h1,H,O,V⟩:=h;refine⟨A,cap,h1,H,O,λhn=>?_⟩;obtain⟨b,off,e,I,hc⟩:=V hn;exact⟨b,off,e,by omega,λi x hx j u hu=>(Y _ I).trans (hc i x hx j u hu)⟩
def RdL.below(h:RdL w v sz enc l)(I:Below B w w')(H:w.heap.size<=B):RdL w' v sz enc l:=
 h.keep I.size λp O=>I.cell ahy
def RdL.drewN(h:RdL w v sz enc l)(n:Nat):RdL (w.drewN n) v sz enc l:=h
def RdL.qt(h:RdL w v sz enc l)(q:Qt w w'):RdL w' v sz enc l:=by obtain⟨n,rfl⟩:=q;exact h
def RdL.alloc(h:RdL w v sz enc l)(o:Obj):RdL (w.alloc o) v sz enc l:=h.keep ahz λp H=>World.cell?_alloc_lt w o p H
def RdL.nil:RdL w (.slice none 0 0) sz enc []:=⟨none,0,rfl,by simp,by simp,by simp⟩
end
def ch{α:Type}(enc:α->List Value)(sz:Nat)(hs:∀x,(enc x).length=sz)(l:List α):∀i x j u,l[i]? =some x->(enc x)[j]? =some u->(l.flatMap enc)[i*sz+j]? =some u:=by
  induction l with
  | nil=>intro i x j u h;simp at h
  | cons a l I=>
    intro i x j u h H;have O:j<sz:=(by have:=(List.getElem?_eq_some_iff.1 H).1;rw[hs]at this;exact this);cases i with
    | zero=>simp at h;subst h;rw[List.flatMap_cons,List.getElem?_append_left (by rw[hs];omega)];simpa using H
    | succ i=>rw[List.flatMap_cons,List.getElem?_append_right (by rw[hs,Nat.succ_mul];omega),hs];have:(i+1)*sz+j-sz=i*sz+j:=(by rw[Nat.succ_mul];omega);rw[this];exact I i x j u (by simpa using h) H
def RdL.of_own{α:Type}{enc:α->List Value}{l:List α}(hs:∀x,(enc x).length=sz)(hn:n=l.length)(O:l.length<=140737488355328)(h:w.ownsRow base e sz v n (l.flatMap enc)):RdL w v sz enc l:=by
  subst hn;rcases h.2 with⟨rfl,Y⟩|⟨g,cap,Nq,rfl,I,hg,V,Rl,KM,ht⟩
  . have:l=[]:=List.eq_nil_of_length_eq_zero Y;subst this;exact RdL.nil
  . refine⟨some ⟨g,0,none⟩,cap,rfl,V,O,λ_=>⟨g,0,rfl,(Array.getElem?_eq_some_iff.1 hg).1,?_⟩⟩;intro i x hx j u hu;have hc:=h.cells (g:=g) rfl (i*sz+j) u (ch enc sz hs l i x j u hx hu);have H:(⟨g,0,none⟩:Addr).add (i*sz+j)=⟨g,0+i*sz+j,none⟩:=(by unfold Addr.add;split<;>simp_all);rw[H]at hc;exact hc
def ai{α:Type}{l:List α}{k:Nat}(h:k<l.length):∃x,l[k]? =some x:=⟨l[k],List.getElem?_eq_getElem h⟩
def a9{α:Type}{l:List α}{k:Nat}{x:α}(h:l[k]? =some x):l.take (k+1)=l.take k++[x]:=by rw[List.take_add_one,h];rfl
def bN(h:Calls P f args (w.drewN n) λe w'=>e= returned v/\w.drewN n=w'):Calls P f args (w.drewN n) λe H=>e= returned v/\∃m,H=w.drewN m:=
  h.mono λ_ _ ⟨I,hm⟩=>⟨I,n,hm.symm⟩
def CB(h:Calls P f args (w.drewN n) λe w'=>e= returned v/\Qt (w.drewN n) w'):Calls P f args (w.drewN n) λe H=>e= returned v/\∃m,H=w.drewN m:=
  h.mono λ_ _ ⟨I,m,hm⟩=>⟨I,n+m,by rw[hm,World.drewN_drewN]⟩
def encI(z:Int):List Value:=[J z]
def jP(z:Int):(encI z).length=1:=rfl
def Blk(w:World)(g:Nat)(t:TypeId)(cs:Array Value):Prop:=w.heap[g]? =some (.cells cs t (0,0))
section
variable{g:Nat}
def Blk.lt(h:Blk w g t cs):g<w.heap.size:=lt_of_block h
def Blk.cell(h:Blk w g t cs)(i:Nat):w.cell? ⟨g,i,none⟩=cs[i]?:=cell_of_row w g i cs t (0,0) h
def Blk.free(h:Blk w g t cs)(i:Nat):w.frozen? ⟨g,i,none⟩=false:=by unfold Blk at h;simp[World.frozen?,h]
def Blk.new(w:World)(t:TypeId)(cs:Array Value):Blk (w.alloc (.cells cs t)) w.heap.size t cs:=heap_alloc_new w _
def Blk.new'(w:World)(t:TypeId)(cs:Array Value){g:Nat}(hg:g=w.heap.size):Blk (w.alloc (.cells cs t)) g t cs:=by subst hg;exact heap_alloc_new w _
def Blk.drewN(h:Blk w g t cs)(n:Nat):Blk (w.drewN n) g t cs:=h
def Blk.drew(h:Blk w g t cs):Blk w.drew g t cs:=h
def Blk.alloc(h:Blk w g t cs)(o:Obj):Blk (w.alloc o) g t cs:=(Below.heap_alloc w o g h.lt).trans h
def Blk.set_(h:Blk w g t cs)(i:Nat)(u:Value):Blk (w.setCell ⟨g,i,none⟩ u) g t (cs.setIfInBounds i u):=by unfold Blk at h ⊢;simp[World.setCell,Array.getElem?_modify,h]
def Blk.far(h:Blk w g t cs)(H:g≠p.block)(u:Value):Blk (w.setCell p u) g t cs:=(Below.heap_setCell w p u g H).trans h
def Blk.below(h:Blk w g t cs)(I:Below B w w')(hg:g<B):Blk w' g t cs:=(I.block g hg).trans h
def Blk.grown{row:Option Nat}(h:Blk w g t cs)(I:w.grownBy w' row)(hg:some g≠row):Blk w' g t cs:=(I.block g h.lt hg).trans h
end
def vu(w:World)(row:Option Nat):w.grownBy w row:=⟨rfl,rfl,rfl,Nat.le_refl _,λ_ _ _=>rfl⟩
def yP{a:World}{g:Nat}(h:a.grownBy w (some g))(o:Nat)(u:Value):a.grownBy (w.setCell ⟨g,o,none⟩ u) (some g):=
 ⟨h.os,h.tape,h.output,by simpa[World.setCell]using h.size,λi hi H=>(Below.heap_setCell w ⟨g,o,none⟩ u i (by
  rintro rfl
  exact H rfl)).trans (h.block i hi H)⟩
def vh{α:Type}{a b:List α}(H:a.length=b.length)(h:a.take a.length=b.take a.length):a=b:=by rw[List.take_length]at h;rw[h,H,List.take_length]
def re(p:Int×Int):List Value:=[J p.1,J p.2]
def az{a b:Bool}(h:a=b):Ending.returned (.bool a)= returned (.bool b):=by rw[h]
def aU{k:IntKind}{a b:Int}(h:a=b):Ending.returned (.int k a)= returned (.int k b):=by rw[h]
def bC(h:w.ownsRow base e sz v n xs):∃A c,v= .slice A n c:=by
 rcases h.2 with⟨rfl,rfl⟩|⟨g,cap,H,rfl,_⟩
 .exact⟨_,_,rfl⟩
 .exact⟨_,_,rfl⟩
def gO(h:w.ownsRow base e sz v n xs)(O:0<n):∃g c,v= slice (some ⟨g,0,none⟩) n c/\base<=g/\g<w.heap.size:=by
  rcases h.2 with⟨rfl,rfl⟩|⟨g,cap,H,rfl,I,hg,_⟩
  . omega
  . exact⟨_,_,rfl,I,(Array.getElem?_eq_some_iff.1 hg).1⟩
end
section
open Go.RowKit Go.Maps
structure Ev where
 kind:Int
 thread:Int
 read:Bool
 count:Int
instance:DecidableEq Ev:=λa b=>decidable_of_iff (a.kind=b.kind/\a.thread=b.thread/\a.read=b.read/\a.count=b.count) (by cases a;cases b;simp)
def encE(e:Ev):List Value:=[J e.kind,J e.thread,.bool e.read,J e.count]
def lr(e:Ev):(encE e).length=4:=rfl
def jO(s:Ev):∀u∈encE s,u.oneCell'=true:=by intro u h;simp[encE]at h;rcases h with rfl|rfl|rfl|rfl<;>rfl
def pZ{α:Type}(l:List α)(x:α)(i:Nat):(l++[x])[i]? =if i<l.length then l[i]? else if i=l.length then some x else none:=by
 split;.rw[List.getElem?_append_left ahy]
 .split;.subst i;simp
  .rw[List.getElem?_eq_none];simp;omega
end
section
open Go.RowKit Go.ChangeShapes Go.WideShapes Go.Deep
def lC{α:Type}(Q:Nat->α->Prop):∀n:Nat,(∀i,i<n->∃x,Q i x)->∃l:List α,l.length=n/\∀i x,l[i]? =some x->Q i x
 |0,_=>⟨[],rfl,by intro i x h;simp at h⟩
 |n+1,h=>by
  obtain⟨l,I,V⟩:=lC Q n (λi hi=>h i ahy);obtain⟨y,Y⟩:=h n ahy;refine⟨l++[y],by simp[I],λi x H=>?_⟩;rw[pZ]at H;split at H;.exact V i x H
  .split at H;.rename_i _ O;injection H with H;subst H;rw[O,I];exact Y
   .cases H
section
variable{H:Type}{enc:TypeId×Value->H}
def fV{b off:Nat}(j:Nat):(⟨b,off,none⟩:Addr).add j=⟨b,off+j,none⟩:=by unfold Addr.add;split<;>simp_all
def uc{x:DataW H×List MemPlace}(ht:P.underlying t=some (.slice e))(he:P.underlying e=some (.int .i64))(hc:P.cellsOf e=1)(h:DataW.trod enc P w base Pt Pf Nr t [v]=some x):∃A cap O,v= .slice A O.length cap/\O.length<=maxLen/\(O.length<=140737488355328->RdL w v 1 encI O)/\∀z∈O,(Lit.int .i64 z).wf=true:=by
  rcases open_ints ht he hc h with⟨V,_⟩|⟨a,len,cap,O,V,_,hl,hm,hz,_,Ny,ad⟩
  . simp at V;subst V;exact⟨none,0,[],rfl,by simp,λ_=>RdL.nil,by simp⟩
  . simp at V;subst V;have Xv:len<=O.length:=(by rw[hz];split<;>omega);refine⟨some a,cap,O.take len,by simp[Xv],by simp;omega,λI=>?_,λz al=>ad z (List.mem_of_mem_take al)⟩;have Y:(O.take len).length=len:=(by simp[Xv]);refine⟨some a,cap,by rw[Y],by omega,I,λhn=>?_⟩;rw[Y]at hn;have h0:=Ny 0 ahy;obtain⟨b,off,spot⟩:=a;have hs:spot=none:=(by simpa[Addr.add]using World.cell?_spot h0);subst hs;refine⟨b,off,rfl,World.block_lt_of_cell? w _ (by rw[fV]at h0;exact h0),λi y hy j u hu=>?_⟩;have hi:i<len:=(by have:=(List.getElem?_eq_some_iff.1 hy).1;rw[Y]at this;exact this);have MI:=Ny i ahy;rw[fV]at MI;have hj:j=0:=(by have:=(List.getElem?_eq_some_iff.1 hu).1;simp[encI]at this;exact this);subst hj;have OT:O.getD i 0=y:=(by rw[List.getElem?_take,if_pos hi]at hy;rw[List.getD_eq_getElem?_getD,hy];rfl);have ab:u= J y:=(by simpa[encI]using hu.symm);rw[Nat.mul_one,Nat.add_zero,MI,ab,OT]
def lQ{O:Array Field}{cs:List Value}{x:DataW H×List MemPlace}(ht:P.underlying t=some (.slice e))(he:P.underlying e=some (.struct O))(Qk:oneCellFields P O=true)(hC:P.cellsOf e=O.size)(h:DataW.trod enc P w base Pt Pf Nr t cs=some x):cs=[.slice none 0 0]\/
    ∃(a:Addr) (len cap:Nat),cs=[.slice (some a) len cap]/\len<=cap/\cap<=maxLen/\
      ∀i,i<len->∀(j:Nat) (f:Field),O[j]? =some f->∃(v:Value) (n:Nat) (y:DataW H×List MemPlace),w.cell? (a.add (i*O.size+j))=some v/\DataW.trod enc P w base Pt Pf n f.type [v]=some y:=by
  rcases open_slice ht h with h0|⟨a,len,cap,m,n,D,Pl,KM,I,hl,hm,SK,hx,hi⟩
  . exact .inl h0.1
  . refine .inr ⟨a,len,cap,KM,hl,hm,λi ad j f hj=>?_⟩;have ZC:i<m:=(by rw[SK];split<;>omega);obtain⟨V,hc,N5⟩:=hi i ZC;rw[hC]at hc;obtain⟨ys,n',UC,hy,KX,Qz,hf⟩:=DataW.trod_struct he N5;obtain⟨_,Ww,Oh⟩:=World.cells?_some hc;obtain⟨Y,hk⟩:=hone_of Qk j f hj;have NC:j<O.size:=(Array.getElem?_eq_some_iff.1 hj).1;have Ny:=Oh j NC;have h1:=hf j f hj;rw[Y,hk]at h1;have Z2:(V.drop j).take 1=[V[j]' ahy]:=(by rw[List.drop_eq_getElem_cons ahy];rfl);rw[Z2]at h1;have ab:ys[j]? =some (ys[j]' ahy):=List.getElem?_eq_getElem ahy;refine⟨V[j]' ahy,n',ys[j]' ahy,?_,h1.trans ab⟩;rw[<-Go.Deep.add_add,Ny];exact List.getElem?_eq_getElem ahy
def zl{r:Reach}{k:IntKind}{x:DataW H×List MemPlace}(ht:P.underlying t=some (.array 4 e))(I:P.underlying e=some (.int k))(hc:P.cellsOf e=1)(hC:P.cellsOf t=4)(O:Value.okWide P w r b0 t v)(h:DataW.trod enc P w base Pt Pf Nr t v.cells.toList=some x):∃n0 n1 n2 n3:Int,v= agg #[.int k n0,.int k n1,.int k n2,.int k n3]/\(Lit.int k n0).wf=true/\(Lit.int k n1).wf=true/\(Lit.int k n2).wf=true/\(Lit.int k n3).wf=true:=by
  unfold Value.okWide at O;rw[ht]at O;obtain⟨cs,rfl,KR,_⟩:=O;rw[hC]at KR;obtain⟨xs,m,_,_,_,M0,hg⟩:=DataW.trod_array ht h;obtain⟨l⟩:=cs;match l,KR with
  | [c0,c1,c2,c3],_=>
    match xs,M0 with
    | [y0,y1,y2,y3],_=>have V:=hg 0 ahy;have Y:=hg 1 ahy;have g2:=hg 2 ahy;have g3:=hg 3 ahy;rw[hc]at V Y g2 g3;simp[Value.cells]at V Y g2 g3;obtain⟨a0,e0,_,w0⟩:=DataW.trod_int I V;obtain⟨a1,e1,_,w1⟩:=DataW.trod_int I Y;obtain⟨a2,e2,_,w2⟩:=DataW.trod_int I g2;obtain⟨a3,e3,_,w3⟩:=DataW.trod_int I g3;simp at e0 e1 e2 e3;subst e0 e1 e2 e3;exact⟨a0,a1,a2,a3,rfl,w0,w1,w2,w3⟩
end
end
section
open Go.RowKit Go.ChangeShapes Go.WideShapes Go.Deep
theorem Tryz.cellsTopo:prog.cellsOf 24=2:=by kernel_rfl
theorem Tryz.cellsInts:prog.cellsOf 22=1:=by kernel_rfl
theorem Tryz.cellsInt:prog.cellsOf 3=1:=by kernel_rfl
section
variable{H:Type}{enc:TypeId×Value->H}
def zm{r:Reach}{x:DataW H×List MemPlace}(O:Value.okWide prog w r b0 24 v)(h:DataW.trod enc prog w base Pt Pf Nr 24 v.cells.toList=some x):∃I cP P V Y T,v= agg #[.slice I (List.length (α:=Int) P) cP,.slice V (List.length (α:=Int) T) Y]/\P.length<=maxLen/\T.length<=maxLen/\(P.length<=140737488355328->RdL w (.slice I P.length cP) 1 encI P)/\(T.length<=140737488355328->RdL w (.slice V T.length Y) 1 encI T):=by
  obtain⟨cs,rfl,KR⟩:=okWide_struct Tryz.underlying24 O;rw[Tryz.cellsTopo]at KR;obtain⟨xs,m,_,_,_,M0,hf⟩:=DataW.trod_struct Tryz.underlying24 h;obtain⟨l⟩:=cs;match l,KR with
  | [c0,c1],_=>
    match xs,M0 with
    | [y0,y1],_=>have g0:=hf 0 _ rfl;have g1:=hf 1 _ rfl;simp[Value.cells,Tryz.cellsInts]at g0 g1;obtain⟨I,cP,P,e0,m0,R0,_⟩:=uc Tryz.underlying22 Tryz.underlying3 Tryz.cellsInt g0;obtain⟨V,Y,T,e1,m1,R1,_⟩:=uc Tryz.underlying22 Tryz.underlying3 Tryz.cellsInt g1;subst e0 e1;exact⟨I,cP,P,V,Y,T,rfl,m0,m1,R0,R1⟩
end
end
section
open Go.RowKit Go.ChangeShapes Go.WideShapes Go.Deep
section
variable{H:Type}{enc:TypeId×Value->H}
def Cw{ti:TypeId}{f0 f1:Field}{x:DataW H×List MemPlace}(ht:P.underlying t=some (.slice e))(he:P.underlying e=some (.struct #[f0,f1]))(Qk:oneCellFields P #[f0,f1]=true)(hC:P.cellsOf e=2)(h0:f0.type=ti)(h1:f1.type=ti)(Ov:P.underlying ti=some (.int .i64))(h:DataW.trod enc P w base Pt Pf Nr t [v]=some x):∃A cap l,v= .slice A l.length cap/\l.length<=maxLen/\(l.length<=140737488355328->RdL w v 2 re l):=by
  rcases lQ ht he Qk (by rw[hC];rfl) h with O|⟨a,len,cap,O,hl,hm,hf⟩
  . simp at O;subst O;exact⟨none,0,[],rfl,by simp,λ_=>RdL.nil⟩
  . simp at O;subst O;have YV:∀i,i<len->∃z:Int×Int,w.cell? (a.add (i*2+0))=some (J z.1)/\w.cell? (a.add (i*2+1))=some (J z.2):=(by intro i hi;obtain⟨v0,n0,y0,c0,r0⟩:=hf i hi 0 f0 rfl;obtain⟨v1,n1,y1,c1,r1⟩:=hf i hi 1 f1 rfl;rw[h0]at r0;rw[h1]at r1;obtain⟨a0,e0,_,w0⟩:=DataW.trod_int Ov r0;obtain⟨a1,e1,_,w1⟩:=DataW.trod_int Ov r1;simp at e0 e1;subst e0 e1;exact⟨(a0,a1),c0,c1⟩);obtain⟨l,Y,hq⟩:=lC _ len YV;refine⟨some a,cap,l,by rw[Y],by omega,λI=>?_⟩;refine⟨some a,cap,by rw[Y],by omega,I,λhn=>?_⟩;obtain⟨z0,Kt⟩:=ai (show 0<l.length from hn);have hc0:=(hq 0 z0 Kt).1;obtain⟨b,off,spot⟩:=a;have hs:spot=none:=(by simpa[Addr.add]using World.cell?_spot hc0);subst hs;refine⟨b,off,rfl,World.block_lt_of_cell? w _ (by rw[fV]at hc0;exact hc0),λi y hy j u V=>?_⟩;have hc:=hq i y hy;simp only[fV,<-Nat.add_assoc]at hc;have hj:j<2:=(by have:=(List.getElem?_eq_some_iff.1 V).1;simpa[re]using this);obtain rfl|rfl:j=0\/j=1:=by omega
    . rw[hc.1];simpa[re]using V
    . rw[hc.2];simpa[re]using V
end
end
section
open Go.RowKit
structure aa(S:List Nat)(w w':World):Prop where
 os:w'.os=w.os
 tape:w'.tape=w.tape
 output:w'.output=w.output
 size:w.heap.size<=w'.heap.size
 block:∀i,i<w.heap.size->i∉S->w'.heap[i]? =w.heap[i]?
section
variable{a b c:World}
def aa.refl(S:List Nat)(w:World):aa S w w:=⟨rfl,rfl,rfl,Nat.le_refl _,λ_ _ _=>rfl⟩
def aa.trans(h:aa S a b)(k:aa S b c):aa S a c:=
 ⟨k.os.trans h.os,k.tape.trans h.tape,k.output.trans h.output,Nat.le_trans h.size k.size,λi hi H=>(k.block i (Nat.lt_of_lt_of_le hi h.size) H).trans (h.block i hi H)⟩
def aa.mono(h:aa S a b)(hs:∀i∈S,i∈T):aa T a b:=⟨h.os,h.tape,h.output,h.size,λi hi H=>h.block i hi λk=>H (hs i k)⟩
def aa.fresh(h:aa S a b)(hs:∀i∈S,i∈T\/a.heap.size<=i):aa T a b:=
 ⟨h.os,h.tape,h.output,h.size,λi hi H=>h.block i hi λk=>(hs i k).elim H λh=>by omega⟩
def aa.alloc(h:aa S a w)(o:Obj):aa S a (w.alloc o):=
 ⟨h.os,h.tape,h.output,Nat.le_trans h.size ahz,λi hi H=>(Below.heap_alloc w o i (Nat.lt_of_lt_of_le hi h.size)).trans (h.block i hi H)⟩
def aa.setCell(h:aa S a w)(H:p.block∈S\/a.heap.size<=p.block)(u:Value):aa S a (w.setCell p u):=
 ⟨h.os,h.tape,h.output,by simpa[World.setCell]using h.size,λi hi I=>(Below.heap_setCell w p u i (by
  rintro rfl
  rcases H with H|H
  .exact I H
  .omega)).trans (h.block i hi I)⟩
def aa.drewN(h:aa S a w)(n:Nat):aa S a (w.drewN n):=⟨h.os,h.tape,h.output,h.size,h.block⟩
def aa.drew(h:aa S a w):aa S a w.drew:=⟨h.os,h.tape,h.output,h.size,h.block⟩
def aa.of_below(h:Below a.heap.size a b):aa S a b:=⟨h.os,h.tape,h.output,h.size,λi hi _=>h.block i hi⟩
def aa.of_qt(h:Qt a b):aa S a b:=aa.of_below (h.below _)
def aa.below(h:aa S a b)(H:∀i∈S,B<=i)(I:B<=a.heap.size):Below B a b:=
 ⟨h.os,h.tape,h.output,h.size,λi hi=>h.block i ahy λk=>by have:=H i k;omega⟩
def aa.blk{g:Nat}(h:aa S w w')(I:Blk w g t cs)(hg:g∉S):Blk w' g t cs:=(h.block g I.lt hg).trans I
def aa.grown{g:Nat}(h:w.grownBy w' (some g)):aa [g] w w':=⟨h.os,h.tape,h.output,h.size,λi hi H=>h.block i hi (by intro e;injection e with e;exact H (by simp[e]))⟩
def aa.own(h:w.ownsRow base e sz v n xs)(k:aa S w w')(hn:∀g,v.ownBlock=some g->g∉S):w'.ownsRow base e sz v n xs:=by
 cases O:v.ownBlock with
 |none=>
  rcases h.2 with⟨rfl,Y⟩|⟨g,cap,V,rfl,_⟩
  .exact⟨h.1,.inl ⟨rfl,Y⟩⟩
  .simp[Value.ownBlock]at O
 |some g=>
  have hg:g∉S:=hn g O;have hl:=(h.lt g O).2;rcases h.2 with⟨rfl,Y⟩|⟨H,cap,V,rfl,I,hc,r⟩
  .simp[Value.ownBlock]at O
  .have e:H=g:=(by simpa[Value.ownBlock]using O);subst e;exact⟨h.1,.inr ⟨H,cap,V,rfl,I,(k.block H hl hg).trans hc,r⟩⟩
end
def aa.cellC(t:aa S w w')(H:p.block<w.heap.size)(h:p.block∉S):w'.cell? p=w.cell? p:=by unfold World.cell?;rw[t.block _ H h]
end
section
open Go
variable{i:Int}
structure Ar where
 W:List Int
 room:Nat
 ops:Nat
 k:Int
 at_:Int
 wr:Bool
def inR(W:List Int)(x:Int):Bool:=decide (1<=x/\x<=W.length)
def ldW(W:List Int)(x:Int):Int:=if inR W x then W.getD (x.toNat-1) 0 else 0
def stW(W:List Int)(x v:Int):List Int:=if inR W x then W.set (x.toNat-1) v else W
def fD(s:Ar)(k x:Int)(wr:Bool):Ar:=if inR s.W x then {s with ops:=s.ops+1,k:=k,at_:=x,wr:=wr} else s
def wrA(s:Ar)(x v:Int):Ar:={s with W:=stW s.W x v}
def af(s:Ar)(x:Int):Ar:=fD s 1 x false
def ae(s:Ar)(x v:Int):Ar:=wrA (fD s 2 x true) x v
def cz(s:Ar)(x v:Int):Ar:=wrA (fD s 3 x true) x v
def cK(s:Ar)(x old:Int):Bool:=inR s.W x&&decide (ldW s.W x=old)
def dY(s:Ar)(x old v:Int):Ar:=if cK s x old then wrA (fD s 4 x true) x v else fD s 4 x false
def addA(s:Ar)(x d:Int):Ar:=wrA (fD s 5 x true) x (IntKind.i64.wrap (ldW s.W x+d))
def bQ(W:List Int)(x v:Int):(stW W x v).length=W.length:=by unfold stW;split<;>simp
def aT{W:List Int}:inR W x=true↔1<=x/\x<=W.length:=by unfold inR;exact decide_eq_true_iff
def iV{W:List Int}:inR W x=false↔¬(1<=x/\x<=W.length):=by unfold inR;exact decide_eq_false_iff_not
structure Sp where
 pc:Int
 a:Int
 b:Int
 c:Int
def Sp.zero:Sp:=⟨0,0,0,0⟩
theorem GI{p q:Sp}(h1:p.pc=q.pc)(h:p.a=q.a)(H:p.b=q.b)(I:p.c=q.c):p=q:=by cases p;cases q;simp at *;exact⟨h1,h,H,I⟩
def okI(S:List Sp)(i:Int):Prop:=0<=i/\i<S.length
instance (S:List Sp)(i:Int):Decidable (okI S i):=by unfold okI;infer_instance
def getS(S:List Sp)(i:Int):Sp:=if 0<=i/\i<S.length then S.getD i.toNat Sp.zero else Sp.zero
def dM{S:List Sp}(h:okI S i):S[i.toNat]? =some (getS S i):=by
 unfold getS;rw[if_pos (show 0<=i/\i<S.length from h),List.getD_eq_getElem?_getD];have:i.toNat<S.length:=by have:=h.1;have:=h.2;omega
 rw[List.getElem?_eq_getElem this];rfl
def dF{S:List Sp}(h:¬okI S i):getS S i=Sp.zero:=by unfold getS;rw[if_neg (show ¬(0<=i/\i<S.length)from h)]
def sv(S:List Sp)(j:Nat):Sp:=S.getD j Sp.zero
def oX{α:Type}(l:List α)(i j:Nat)(a d:α):(l.set i a).getD j d=if i=j/\i<l.length then a else l.getD j d:=by
 rw[List.getD_eq_getElem?_getD,List.getD_eq_getElem?_getD,List.getElem?_set];by_cases h:i=j
 .subst h;by_cases H:i<l.length;.simp[H]
  .simp[H]
 .simp[h]
theorem bh(S:List Sp)(i j:Nat)(p:Sp):sv (S.set i p) j=if i=j/\i<S.length then p else sv S j:=oX _ _ _ _ _
def dO(s:Ar)(k x:Int)(wr:Bool):(fD s k x wr).W=s.W:=by unfold fD;split<;>rfl
def i4(s:Ar)(k x:Int)(wr:Bool)(h:inR s.W x=false):fD s k x wr=s:=by unfold fD;rw[h];rfl
def si(s:Ar)(x v:Int)(h:inR s.W x=false):wrA s x v=s:=by unfold wrA stW;rw[h];rfl
def jt{W:List Int}(h:inR W x=true):ldW W x=W.getD (x.toNat-1) 0:=by unfold ldW;rw[if_pos h]
def ly{W:List Int}(h:inR W x=false):ldW W x=0:=by unfold ldW;rw[h];rfl
def yc(s:Ar)(x v:Int):(wrA s x v).W=stW s.W x v:=rfl
def aQ(s:Ar)(x:Int):(af s x).W=s.W:=dO _ _ _ _
def ay(s:Ar)(x v:Int):(ae s x v).W=stW s.W x v:=by unfold ae;rw[yc,dO]
def dQ(s:Ar)(x v:Int):(cz s x v).W=stW s.W x v:=by unfold cz;rw[yc,dO]
def gX(s:Ar)(x o v:Int):(dY s x o v).W=if cK s x o then stW s.W x v else s.W:=by unfold dY;split<;>rename_i h<;>simp only[yc,dO]
def d7(s:Ar)(x d:Int):(addA s x d).W=stW s.W x (IntKind.i64.wrap (ldW s.W x+d)):=by unfold addA;rw[yc,dO]
def fP(s:Ar)(k x:Int)(wr:Bool):(fD s k x wr).ops<=s.ops+1:=by unfold fD;split<;>simp
def iW(s:Ar)(x:Int):(af s x).ops<=s.ops+1:=fP _ _ _ _
def ij(s:Ar)(x v:Int):(ae s x v).ops<=s.ops+1:=fP _ _ _ _
def fd(s:Ar)(x v:Int):(cz s x v).ops<=s.ops+1:=fP _ _ _ _
def jI(s:Ar)(x d:Int):(addA s x d).ops<=s.ops+1:=fP _ _ _ _
def oj(s:Ar)(x o v:Int):(dY s x o v).ops<=s.ops+1:=by unfold dY;split<;>exact fP _ _ _ _
def gz{W:List Int}(h:inR W x=true)(v y:Int):ldW (stW W x v) y=if y=x then v else ldW W y:=by
 obtain⟨h1,O⟩:=aT.1 h;unfold ldW stW;rw[if_pos h];have e:inR (W.set (x.toNat-1) v) y=inR W y:=by unfold inR;rw[List.length_set]
 rw[e];by_cases H:inR W y=true
 .rw[if_pos H,if_pos H,List.getD_eq_getElem?_getD,List.getElem?_set];obtain⟨V,Y⟩:=aT.1 H;by_cases I:y=x;.subst I;rw[if_pos rfl,if_pos rfl,if_pos ahy];rfl
  .rw[if_neg I,if_neg ahy,List.getD_eq_getElem?_getD]
 .rw[if_neg H,if_neg H];rw[if_neg];rintro rfl;exact H h
end
section
open Go.RowKit
variable{q:Nat}{S:List Sp}{p:Sp}
def bm(p:Sp):List Value:=[J p.pc,J p.a,J p.b,J p.c]
def iN(p:Sp):(bm p).length=4:=rfl
def dE(w:World)(q:Nat)(S:List Sp):Prop:=Blk w q 113 (S.flatMap bm).toArray
def dE.cell(h:dE w q S)(H:S[i]? =some p)(j:Nat)(u:Value)(I:(bm p)[j]? =some u):Z w q (i*4+j) u:=by rw[Blk.cell h];simpa using ch bm 4 iN S i p j u H I
def nJ{α:Type}(enc:α->List Value)(sz:Nat)(hs:∀x,(enc x).length=sz)(l:List α):∀k x x' j u,l[k]? =some x->j<sz->(enc x).set j u=enc x'->(l.flatMap enc).set (k*sz+j) u=(l.set k x').flatMap enc:=by
  induction l with
  | nil=>intro k x x' j u h;simp at h
  | cons a l O=>
    intro k x x' j u h I H;cases k with
    | zero=>simp at h;subst h;rw[List.set_cons_zero,List.flatMap_cons,List.flatMap_cons,List.set_append_left _ _ (by rw[hs];omega)];simp[H]
    | succ k=>rw[List.set_cons_succ,List.flatMap_cons,List.flatMap_cons,List.set_append_right _ _ (by rw[hs,Nat.succ_mul];omega),hs];have:(k+1)*sz+j-sz=k*sz+j:=(by rw[Nat.succ_mul];omega);rw[this,O k x x' j u (by simpa using h) I H]
def dE.put(h:dE w q S){p':Sp}(O:S[i]? =some p){j:Nat}{u:Value}(I:j<4)(H:(bm p).set j u=bm p'):dE (w.setCell ⟨q,i*4+j,none⟩ u) q (S.set i p'):=by have h1:=Blk.set_ h (i*4+j) u;unfold dE;rw[List.setIfInBounds_toArray,nJ bm 4 iN S i p p' j u O I H]at h1;exact h1
def dE.lt(h:dE w q S):q<w.heap.size:=Blk.lt h
def dE.free(h:dE w q S)(i:Nat):w.frozen? ⟨q,i,none⟩=false:=Blk.free h i
def dE.turns(h:dE w q S)(k:aa T w w')(H:q∉T):dE w' q S:=k.blk h H
def aC(p:Sp):Value:= agg #[J p.pc,J p.a,J p.b,J p.c]
def aP(a b c d:Int)(w:World):(Instr.field 113 (agg #[J a,J b,J c,J d]) 0).run prog w= .ok (J a) w:=by kernel_rfl
end
section
open Go Go.RowKit
def lkP(lb:Nat):Value:= ↑lb
section
variable{lb:Nat}
def uD(hc:Z w lb 1 (J n)):E 53 #[lkP lb] w λe w'=>e= returned (J n)/\w=w':=by unfold lkP;go_enter func53,ntmps53;exact aab
def tv(hc:Z w lb 1 (J n))(i:Int)(r:Bool)(V:decide (0<=i/\i<n)=r):E 58 #[lkP lb,J i] w λe w'=>e= returned (.bool r)/\w=w':=by
 have I:=qh (uD hc);obtain⟨v,O⟩:=LE (lkP lb);rw[<-O]at I ⊢;have H:=qh V;clear hc O V;by_cases Y:i<0;.have t0:decide (0<=i)=false:=decide_eq_false ahy;have h:Kq (r=false):=qh (by rw[<-H.o];exact decide_eq_false ahy);clear Y;go_enter func58,ntmps58;go_wp2;go_ret;exact⟨az h.o.symm,rfl⟩
 .have t0:decide (0<=i)=true:=decide_eq_true ahy;have h:Kq (r=decide (i<(n:Int))):=qh (by rw[<-H.o];by_cases e:i<(n:Int)<;>simp[e];omega);clear Y;go_enter func58,ntmps58;go_wp2_with fail;refine LT I.o ?_;go_wp2;go_ret;exact⟨az h.o.symm,rfl⟩
end
end
section
open Go.RowKit
def gE(g:Nat)(s:Ar):Array Value:=#[slice (some ⟨g,0,none⟩) s.room s.room,J s.W.length,J s.ops,J s.k,J s.at_,.bool s.wr]
def wdL(s:Ar):List Value:=(s.W++List.replicate (s.room-s.W.length) 0).map (Value.int .i64)
structure aB(w:World)(a g:Nat)(s:Ar):Prop where
 blk:Blk w a 106 (gE g s)
 wds:Blk w g 216 (wdL s).toArray
 ne:a≠g
 le:s.W.length<=s.room
 room:s.room<=4096
 ops:s.ops<=1000000000000
def aB.turns{a g:Nat}{s:Ar}(h:aB w a g s)(k:aa S w w')(H:a∉S)(hg:g∉S):aB w' a g s:=
 ⟨k.blk h.blk H,k.blk h.wds hg,h.ne,h.le,h.room,h.ops⟩
def aB.word{a g:Nat}{s:Ar}(h:aB w a g s)(hi:i<s.W.length):Z w g i (J (s.W.getD i 0))/\w.frozen? ⟨g,i,none⟩=false:=by refine⟨?_,h.wds.free i⟩;rw[h.wds.cell i];simp[wdL,List.getElem?_append,hi]
def E3(s:Ar)(hi:i<s.W.length)(v:Int):(wdL s).toArray.setIfInBounds i (J v)=(wdL {s with W:=s.W.set i v}).toArray:=by unfold wdL;simp only[List.setIfInBounds_toArray,List.length_set];congr 1;rw[<-List.map_set,List.set_append_left _ _ hi]
section
variable{a g:Nat}{s:Ar}
def aB.c0(h:aB w a g s):w.cell? a=some (slice (some ⟨g,0,none⟩) s.room s.room):=h.blk.cell 0
def aB.c1(h:aB w a g s):Z w a 1 (J s.W.length):=h.blk.cell 1
def aB.c2(h:aB w a g s):Z w a 2 (J s.ops):=h.blk.cell 2
def aB.c3(h:aB w a g s):Z w a 3 (J s.k):=h.blk.cell 3
def aB.c4(h:aB w a g s):Z w a 4 (J s.at_):=h.blk.cell 4
def aB.c5(h:aB w a g s):Z w a 5 (.bool s.wr):=h.blk.cell 5
end
def nL{a g:Nat}{s:Ar}(h:aB w a g s):E 112 #[↑a] w λe w'=>e= returned (J s.W.length)/\w=w':=by have c1:=h.c1;clear h;go_enter func112,ntmps112;go_wp2;go_ret;exact⟨rfl,rfl⟩
def Ak{a g:Nat}{s:Ar}(h:aB w a g s):E 14 #[↑a] w λe w'=>e= returned (J s.ops)/\w=w':=by have c1:=h.c2;clear h;go_enter func14,ntmps14;go_wp2;go_ret;exact⟨rfl,rfl⟩
def kI{a g:Nat}{s:Ar}(h:aB w a g s)(x:Int)(O:inR s.W x=true):E 186 #[↑a,J x] w λe w'=>e= returned (pointer (some ⟨g,x.toNat-1,none⟩))/\w=w':=by
  have c0:=h.c0;have H:=qh h;have hl:=h.le;have V:=h.room;obtain⟨h1,Y⟩:=aT.1 O;obtain⟨n,rfl⟩:∃n:Nat,x=((n+1:Nat):Int):=⟨x.toNat-1,by omega⟩;have I:((n+1:Nat):Int).toNat-1=n:=by omega
  rw[I];have t1:¬((n+1:Nat):Int)<1:=by omega
  have t2:¬(s.W.length:Int)<((n+1:Nat):Int):=by omega
  have t3:(n:Int)<s.room:=by omega
  clear h O h1 Y I;go_enter func186,ntmps186;go_wp2_with (go_at_call 112;refine(nL H.o).mono ?_;rintro e w' ⟨rfl,rfl⟩);go_ret;exact⟨by simp,rfl⟩
def kx{a g:Nat}{s:Ar}(h:aB w a g s)(x:Int)(I:inR s.W x=false):E 186 #[↑a,J x] w λe w'=>e= returned (.pointer none)/\w=w':=by
  have H:=qh h;have O:=iV.1 I;clear h I;by_cases h1:x<1;. go_enter func186,ntmps186;go_wp2_with (go_at_call 112;refine(nL H.o).mono ?_;rintro e w' ⟨rfl,rfl⟩);go_ret;exact⟨rfl,rfl⟩
  . have t2:(s.W.length:Int)<x:=(by omega);clear O;go_enter func186,ntmps186;go_wp2_with (go_at_call 112;refine(nL H.o).mono ?_;rintro e w' ⟨rfl,rfl⟩);go_ret;exact⟨rfl,rfl⟩
def i5{a g:Nat}{s:Ar}(h:aB w a g s)(k x:Int)(wr:Bool)(O:inR s.W x=true)(Y:s.ops+1<=1000000000000):E 187 #[↑a,J k,J x,.bool wr] w λe w'=>e= returned (tuple #[])/\aB w' a g (fD s k x wr)/\aa [a] w w':=by
  have c2:=h.c2;have c3:=h.c3;have c4:=h.c4;have c5:=h.c5;have V:=h.blk.free 2;have f3:=h.blk.free 3;have f4:=h.blk.free 4;have f5:=h.blk.free 5;have hl:=h.blk.lt;have H:=qh h;have HX:=qh O;clear h O;go_enter func187,ntmps187;go_wp2;go_end0;refine⟨rfl,?_,?_⟩;. have I:=(((H.o.blk.set_ 2 (J (s.ops+1))).set_ 3 (J k)).set_ 4 (J x)).set_ 5 (.bool wr);have hw:=(((H.o.wds.far (p:=⟨a,2,none⟩) H.o.ne.symm (J (s.ops+1))).far (p:=⟨a,3,none⟩) H.o.ne.symm (J k)).far (p:=⟨a,4,none⟩) H.o.ne.symm (J x)).far (p:=⟨a,5,none⟩) H.o.ne.symm (.bool wr);have e:fD s k x wr={s with ops:=s.ops+1,k:=k,at_:=x,wr:=wr}:=(by unfold fD;rw[if_pos HX.o]);rw[e];exact⟨I,hw,H.o.ne,H.o.le,H.o.room,Y⟩
  . exact((((aa.refl _ _).setCell (.inl ahz) _).setCell (.inl ahz) _).setCell (.inl ahz) _).setCell (.inl ahz) _
end
section
open Go Go.RowKit
structure LkM(n:Nat) where
 σ:Type
 β:Type
 ok:σ->Nat->Prop
 ar:σ->Ar
 sp:σ->Nat->Sp
 cn:σ->Nat->Int
 rd:Bool
 step:σ->Nat->σ
 ask:σ->Nat->Bool->σ
 leave:σ->Nat->σ
 bt:β->Nat
 hi:β->Nat
 fp:β->List Nat
 is:β->World->Nat->Nat->Nat->σ->Prop
abbrev MS(n:Nat):Type 1:=(M:LkM n)×M.σ
def rdB(rd:Bool)(p:Sp):Bool:=rd&&decide (p.a=1)
def LkM.Act(M:LkM n)(b:M.β)(w:World)(a g lb:Nat)(st':M.σ)(r:Bool)(e:Ending)(w':World):Prop:=
 e= returned (.bool r)/\M.is b w' a g lb st'/\aa (M.fp b) w w'
def lkB:Nat:=1000000
def dm(p p':Sp):Bool:=decide ((p'.pc=10\/p'.pc=0)/\p.pc≠0/\p.pc≠10)
structure LkM.Good{n:Nat}(M:LkM n):Prop where
 n32:1<=n/\n<=32
 okS:∀st N i,M.ok st N->N<lkB->i<n->M.ok (M.step st i) (N+1)
 okA:∀st N i r,M.ok st N->N<lkB->i<n->M.ok (M.ask st i r) (N+1)
 okL:∀st N i,M.ok st N->N<lkB->i<n->M.ok (M.leave st i) (N+1)
 okm:∀st N,M.ok st N->M.ok st (N+1)
 one:∀st N i j,M.ok st N->i<n->j<n->(M.sp st i).pc=10->(M.sp st j).pc=10->rdB M.rd (M.sp st i)=false->i=j
 pcs:∀st N i,M.ok st N->i<n->0<=(M.sp st i).pc
 cnt:∀st N i,M.ok st N->i<n->((M.sp st i).pc=10↔0<M.cn st i)
 opsS:∀st N i,M.ok st N->N<lkB->i<n->(M.ar (M.step st i)).ops<=(M.ar st).ops+1
 arA:∀st i r,M.ar (M.ask st i r)=M.ar st
 arL:∀st i,M.ar (M.leave st i)=M.ar st
 ais:∀b w a g lb st,M.is b w a g lb st->aB w a g (M.ar st)
 lk:∀b w a g lb st,M.is b w a g lb st->w.cell? ⟨lb,1,none⟩=some (int i64 n)
 kd:∀b w a g lb st,M.is b w a g lb st->∃k:Int,w.cell? ⟨lb,0,none⟩=some (int i64 k)/\M.rd=decide (11<=k/\k<=13)
 fpa:∀b w a g lb st,M.is b w a g lb st->(∀x∈M.fp b,x<M.hi b)/\M.hi b<=w.heap.size
 far:∀b w a g lb st w' S,M.is b w a g lb st->aa S w w'->(∀x∈S,M.hi b<=x\/x<M.bt b)->M.is b w' a g lb st
 cS:∀b w a g lb st N i,M.is b w a g lb st->M.ok st N->N<lkB->i<n->
  Calls prog 51 #[lkP lb,int i64 i] w (M.Act b w a g lb (M.step st i) (dm (M.sp st i) (M.sp (M.step st i) i)))
 cA:∀b w a g lb st N i r,M.is b w a g lb st->M.ok st N->N<lkB->i<n->
  Calls prog 50 #[lkP lb,int i64 i,.bool r] w (M.Act b w a g lb (M.ask st i r) (decide ((M.sp st i).pc=0/\(r=true->M.rd=true))))
 cL:∀b w a g lb st N i,M.is b w a g lb st->M.ok st N->N<lkB->i<n->
  Calls prog 52 #[lkP lb,int i64 i] w (M.Act b w a g lb (M.leave st i) (decide ((M.sp st i).pc=10)))
 cP:∀b w a g lb st i,M.is b w a g lb st->i<n->
  Calls prog 57 #[lkP lb,int i64 i] w λe w'=>e= returned (aC (M.sp st i))/\Below w.heap.size w w'
 cC:∀b w a g lb st i,M.is b w a g lb st->i<n->
  Calls prog 18 #[lkP lb,int i64 i] w λe w'=>e= returned (int i64 (M.cn st i))/\Below w.heap.size w w'
end
section
open Go Go.RowKit
variable{i:Int}{p:Sp}
section
variable{M:LkM n}{a g lb:Nat}{b:M.β}{st st':M.σ}
def jb(pc:Int):Int:=if pc=0 then 0 else if pc<10 then 1 else if pc=10 then 2 else 3
def wH(h:E 57 #[lkP lb,J i] w λe w'=>e= returned (aC p)/\Below w.heap.size w w'):E 16 #[lkP lb,J i] w λe w'=>e= returned (J (jb p.pc))/\Below w.heap.size w w':=by
  have O:=aP;have H:=qh h;clear h;obtain⟨pc,u,v,z⟩:=p;unfold aC at H;obtain⟨q,I⟩:=LE (lkP lb);rw[<-I]at H ⊢;have HX:Kq (jb pc=if (pc==0)=true then 0 else if decide (pc<10)=true then 1 else if (pc==10)=true then 2 else 3):=qh (by unfold jb;simp);clear I;simp only;cases t0:(pc==0)
  . cases t1:decide (pc<10)
    . cases t2:(pc==10);. rw[show jb pc=3 from by rw[HX.o,t0,t1,t2];rfl];go_enter func16,ntmps16;go_wp2_with fail;refine Pi H.o λw1 B1=>?_;go_wp2;go_ret;exact⟨rfl,B1.o⟩
      . rw[show jb pc=2 from by rw[HX.o,t0,t1,t2];rfl];go_enter func16,ntmps16;go_wp2_with fail;refine Pi H.o λw1 B1=>?_;go_wp2;go_ret;exact⟨rfl,B1.o⟩
    . rw[show jb pc=1 from by rw[HX.o,t0,t1];rfl];go_enter func16,ntmps16;go_wp2_with fail;refine Pi H.o λw1 B1=>?_;go_wp2;go_ret;exact⟨rfl,B1.o⟩
  . rw[show jb pc=0 from by rw[HX.o,t0];rfl];go_enter func16,ntmps16;go_wp2_with fail;refine Pi H.o λw1 B1=>?_;go_wp2;go_ret;exact⟨rfl,B1.o⟩
def GN(G:M.Good)(h:M.is b w a g lb st)(i:Nat)(hi:i<n):E 16 #[lkP lb,J i] w λe w'=>e= returned (J (jb (M.sp st i).pc))/\Below w.heap.size w w':=wH (G.cP b w a g lb st i h hi)
def xS(k:Int)(w:World)(r:Bool)(V:r=decide (11<=k/\k<=13)):E 55 #[J k] w λe w'=>e= returned (.bool r)/\w=w':=by
 have h:=qh V;clear V;by_cases h1:11<=k;.go_enter func55,ntmps55;go_wp2;go_ret;exact⟨az (by rw[h.o];by_cases e:k<=13<;>simp[e];omega),rfl⟩
 .have t1:decide (k >= 11)=false:=decide_eq_false ahy;go_enter func55,ntmps55;go_wp2;go_ret;exact⟨az (by rw[h.o];symm;exact decide_eq_false ahy),rfl⟩
def uh(rd:Bool)(p:Sp):Bool:=!decide (p.pc=0)&&rdB rd p
def Br(a b c d:Int)(w:World):(Instr.field 113 (agg #[J a,J b,J c,J d]) 1).run prog w= .ok (J b) w:=by kernel_rfl
theorem CH{rd:Bool}{k:Int}(O:w.cell? lb=some (J k))(Mf:rd=decide (11<=k/\k<=13))(h:∀W,Below w.heap.size w W->E 57 #[lkP lb,J i] W λe w'=>e= returned (aC p)/\Below W.heap.size W w'):E 17 #[lkP lb,J i] w λe w'=>e= returned (bool (uh rd p))/\Below w.heap.size w w':=by
  have LN:=Br;have LC:=aM O;have H:=qh (wH (h w (Below.refl _ _)));have HP:=qh h;have V:Kq (∀W,Below w.heap.size w W->W.cell? lb=some (J k)):=qh λW t=>by rw[(aa.of_below (S:=[]) t).cellC LC ahz];exact O
  have Y:=qh (λW=>xS k W rd Mf);clear h O Mf LC;obtain⟨pc,u,v,z⟩:=p;unfold aC at HP;unfold uh rdB;unfold lkP at *;simp only at H ⊢;by_cases I:pc=0;. subst I;go_enter func17,ntmps17;go_wp2_with fail;refine Pi H.o λw1 B1=>?_;rw[show jb 0=0 from rfl];go_wp2;go_ret;exact⟨rfl,B1.o⟩
  . have e0:jb pc≠0:=(by unfold jb;rw[if_neg I];split;decide;split<;>decide);obtain⟨s,hs⟩:=LE (jb pc);rw[<-hs]at H e0;have t0:(s !=0)=true:=(by simpa using e0);have HZ:=qh (show decide (pc=0)=false from decide_eq_false I);clear hs e0 I;cases rd;. go_enter func17,ntmps17;go_wp2_with fail;refine Pi H.o λw1 b1=>?_;have c0:=V.o _ b1.o;have B1:=qh b1.o;go_wp2_with fail;refine LT (Y.o _) ?_;go_wp2;go_ret;exact⟨az ahz,B1.o⟩
    . go_enter func17,ntmps17;go_wp2_with fail;refine Pi H.o λw1 b1=>?_;have c0:=V.o _ b1.o;have B1:=qh b1.o;go_wp2_with fail;refine LT (Y.o _) ?_;go_wp2_with fail;refine Pi (HP.o _ B1.o) λw3 b3=>?_;have B3:=qh (B1.o.trans (b3.o.mono B1.o.size));clear c0;go_wp2;go_ret;exact⟨az (by rw[HZ.o];by_cases e:u=1<;>simp[e]),B3.o⟩
def GB(G:M.Good)(h:M.is b w a g lb st)(i:Nat)(hi:i<n):E 17 #[lkP lb,J i] w λe w'=>e= returned (bool (uh M.rd (M.sp st i)))/\Below w.heap.size w w':=by obtain⟨k,I,H⟩:=G.kd b w a g lb st h;exact CH I H λW t=>G.cP b W a g lb st i (G.far b w a g lb st W [] h (aa.of_below t) ahz) hi
end
end
section
open Go Go.RowKit
def evV(e:Ev):Value:= agg #[J e.kind,J e.thread,.bool e.read,J e.count]
def Blk.set4{g:Nat}{a b c d H b' I d':Value}(h:Blk w g t #[a,b,c,d]):Blk ((((w.setCell ⟨g,0,none⟩ H).setCell ⟨g,1,none⟩ b').setCell ⟨g,2,none⟩ I).setCell ⟨g,3,none⟩ d') g t #[H,b',I,d']:=
 (((h.set_ 0 H).set_ 1 b').set_ 2 I).set_ 3 d'
def aa.set4{w0:World}(h:aa S w0 w)(I:w0.heap.size<=H)(p q r s:Value):aa S w0 ((((w.setCell ⟨H,0,none⟩ p).setCell ⟨H,1,none⟩ q).setCell ⟨H,2,none⟩ r).setCell ⟨H,3,none⟩ s):=
 (((h.setCell (.inr I) p).setCell (.inr I) q).setCell (.inr I) r).setCell (.inr I) s
section
variable{M:LkM n}
def LkM.stt(M:LkM n)(st:M.σ)(i:Nat):Int:=jb (M.sp st i).pc
def LkM.rds(M:LkM n)(st:M.σ)(i:Nat):Bool:=uh M.rd (M.sp st i)
def LkM.stepE(M:LkM n)(st:M.σ)(i:Nat):Ev×M.σ:=
 if M.stt st i=1 then(if dm (M.sp st i) (M.sp (M.step st i) i)then⟨2,i,M.rds st i,M.cn (M.step st i) i⟩else⟨0,i,M.rds st i,0⟩,M.step st i)
 else if M.stt st i=3 then(⟨if dm (M.sp st i) (M.sp (M.step st i) i)then 4 else 0,i,M.rds st i,0⟩,M.step st i)
 else(⟨0,i,M.rds st i,0⟩,st)
def LkM.askE(M:LkM n)(st:M.σ)(i:Nat)(r:Bool):Ev×M.σ:=
 if (r&&!M.rd)=true then(⟨5,i,M.rds st i,0⟩,st)else(if decide ((M.sp st i).pc=0/\(r=true->M.rd=true))then⟨1,i,r,0⟩else⟨5,i,M.rds st i,0⟩,M.ask st i r)
def LkM.leaveE(M:LkM n)(st:M.σ)(i:Nat)(r:Bool):Ev×M.σ:=
 if (M.rds st i !=r)=true then(⟨5,i,M.rds st i,0⟩,st)else(if decide ((M.sp st i).pc=10)then⟨3,i,r,0⟩else⟨5,i,M.rds st i,0⟩,M.leave st i)
def LkM.pick(M:LkM n)(st:M.σ)(p:Int×Int):Ev×M.σ:=
 if 0<=p.1/\p.1<n then
  (if p.2=0 then M.stepE st p.1.toNat else if p.2=1\/p.2=3 then M.askE st p.1.toNat (decide (p.2=3))else if p.2=2\/p.2=4 then M.leaveE st p.1.toNat (decide (p.2=4))
  else(⟨5,p.1,M.rds st p.1.toNat,0⟩,st))
 else(⟨0,0,false,0⟩,st)
def LkM.Good.pick(G:M.Good){st:M.σ}(h:M.ok st N)(hN:N<lkB)(p:Int×Int):M.ok (M.pick st p).2 (N+1)/\(M.ar (M.pick st p).2).ops<=(M.ar st).ops+1/\((M.pick st p).1.kind=5\/¬(0<=p.1/\p.1<n)->M.ar (M.pick st p).2=M.ar st):=by
 have hm:=G.okm _ _ h;have nil:M.ok st (N+1)/\(M.ar st).ops<=(M.ar st).ops+1:=⟨hm,by omega⟩;unfold LkM.pick;by_cases hi:0<=p.1/\p.1<n
 .rw[if_pos hi];have H:p.1.toNat<n:=by omega
  have hS:=And.intro (G.okS _ _ _ h hN H) (G.opsS _ _ _ h hN H);have I:=λr=>And.intro (G.okA _ _ _ r h hN H) (G.arA st p.1.toNat r);have O:=And.intro (G.okL _ _ _ h hN H) (G.arL st p.1.toNat);split
  .unfold LkM.stepE;split;.exact aac
   .split;.exact aac
    .exact aad
  .split
   .unfold LkM.askE;split;.exact aad
    .exact⟨(I _).1,by rw[(I _).2];omega,λ_=>(I _).2⟩
   .split
    .unfold LkM.leaveE;split;.exact aad
     .exact⟨O.1,by rw[O.2];omega,λ_=>O.2⟩
    .exact aad
 .rw[if_neg hi];exact aad
end
structure WoB{n:Nat}(M:LkM n) where
 b:M.β
 a:Nat
 g:Nat
 wb:Nat
 lb:Nat
 tb:Nat
 hi:Nat
structure bI{n:Nat}{M:LkM n}(X:WoB M)(w:World)(st:M.σ):Prop where
 is:M.is X.b w X.a X.g X.lb st
 wd:Blk w X.wb 121 #[↑X.a,↑X.tb,lkP X.lb,.bool M.rd]
 nf:X.wb∉M.fp X.b
 hw:M.hi X.b<=X.hi/\X.wb<X.hi/\X.hi<=w.heap.size
section
variable{M:LkM n}{X:WoB M}{st st':M.σ}
def bI.far(G:M.Good)(h:bI X w st)(t:aa S w w')(H:∀x∈S,X.hi<=x):bI X w' st:=
 ⟨G.far _ _ _ _ _ _ _ _ h.is t (λx I=> .inl (Nat.le_trans h.hw.1 (H x I))),t.blk h.wd (λm=>by have:=H _ m;have:=h.hw;omega),h.nf,⟨h.hw.1,h.hw.2.1,Nat.le_trans h.hw.2.2 t.size⟩⟩
def bI.below(G:M.Good)(h:bI X w st)(b:Below w.heap.size w w'):bI X w' st:=h.far G (aa.of_below (S:=[]) b) ahz
def bI.act(h:bI X w st)(t:aa (M.fp X.b) w w')(k:M.is X.b w' X.a X.g X.lb st'):bI X w' st':=
 ⟨k,t.blk h.wd h.nf,h.nf,⟨h.hw.1,h.hw.2.1,Nat.le_trans h.hw.2.2 t.size⟩⟩
def bI.lo(G:M.Good)(h:bI X w st):∀r∈M.fp X.b,r<X.hi:=λr V=>Nat.lt_of_lt_of_le ((G.fpa _ _ _ _ _ _ h.is).1 r V) h.hw.1
def bI.set(G:M.Good)(h:bI X w st)(O:X.hi<=H)(i:Nat)(u:Value):bI X (w.setCell ⟨H,i,none⟩ u) st:=
 h.far G (S:=[H]) ((aa.refl _ _).setCell (.inl ahz) u) (λj I=>by simp at I;omega)
def bI.set4(G:M.Good)(h:bI X w st)(I:X.hi<=H)(p q r s:Value):bI X ((((w.setCell ⟨H,0,none⟩ p).setCell ⟨H,1,none⟩ q).setCell ⟨H,2,none⟩ r).setCell ⟨H,3,none⟩ s) st:=
 (((h.set G I 0 p).set G I 1 q).set G I 2 r).set G I 3 s
def wY(X:WoB M)(w:World)(st':M.σ)(v:Value)(e:Ending)(w':World):Prop:=
 e= returned v/\bI X w' st'/\aa (M.fp X.b) w w'
theorem kZ(G:M.Good)(h:bI X w st)(i:Nat)(hi:i<n):E 28 #[lkP X.wb,J i] w λe w'=>e= returned (tuple #[J (M.stt st i),bool (M.rds st i)])/\Below w.heap.size w w':=by
  have H:Kq (∀W,Below w.heap.size w W->Z W X.wb 2 ↑X.lb):=qh λW b=>(h.below G b).wd.cell 2;have c2:=H.o _ (Below.refl _ _);have O:=qh (λW (b:Below w.heap.size w W)=>GN G (h.below G b).is i hi);have I:=qh (λW (b:Below w.heap.size w W)=>GB G (h.below G b).is i hi);unfold LkM.stt LkM.rds;obtain⟨z,Y⟩:=LE (jb (M.sp st i).pc);obtain⟨r,V⟩:=LE (uh M.rd (M.sp st i));rw[<-Y]at O ⊢;rw[<-V]at I ⊢;unfold lkP at *;clear h Y V;have K:=qh (show Below w.heap.size w w.drew from(Below.refl _ _).drew);go_enter func28,ntmps28;go_wp2_with fail
  go_region_held3 (λW=>Z W X.wb 2 ↑X.lb)
    (first|with_reducible exact H.o _ K.o)
    (first
      | (go_at_call 16;go_loud (refine Pi (O.o _ K.o) λw2 b2=>?_);have K:=qh (K.o.trans (b2.o.mono K.o.size)))
      | (go_at_call 17;go_loud (refine Pi (I.o _ K.o) λw3 b3=>?_);have K:=qh (K.o.trans (b3.o.mono K.o.size))))
  all_goals go_wp2;go_ret2;exact⟨rfl,K.o⟩
theorem pN(G:M.Good)(h:bI X w st):E 61 #[lkP X.wb] w λe w'=>e= returned (J n)/\w=w':=by have c2:=h.wd.cell 2;have HT:=qh (uD (G.lk _ _ _ _ _ _ h.is));unfold lkP at *;clear h;go_enter func61,ntmps61;exact aae
theorem Gv(G:M.Good)(h:bI X w st):E 23 #[lkP X.wb] w λe w'=>e= returned (J (M.ar st).ops)/\w=w':=by have c2:=h.wd.cell 0;have HT:=qh (Ak (G.ais _ _ _ _ _ _ h.is));unfold lkP at *;clear h;go_enter func23,ntmps23;exact aae
end
end
section
open Go Go.RowKit
section
variable{M:LkM n}{X:WoB M}{st st':M.σ}
theorem Jh(G:M.Good)(h:bI X w st)(hk:M.ok st N)(hN:N<lkB)(i:Nat)(hi:i<n):E 65 #[lkP X.wb,J i] w (wY X w (M.stepE st i).2 (evV (M.stepE st i).1)):=by
  refine aiU ?_;intro KR b0 h0 HS Ns H0 HL;refine akc ?_;intro HM;have Lu:=qh (h.lo G);have HG:=qh G;have Ly:=qh (λW (k:bI X W st)=>G.cS _ _ _ _ _ _ _ i k.is hk hN hi);have Mq:=qh (λW (k:bI X W (M.step st i))=>G.cC _ _ _ _ _ _ i k.is hi);unfold LkM.stepE;obtain⟨z,hz⟩:=LE (M.stt st i);obtain⟨rd,Mf⟩:=LE (M.rds st i);obtain⟨r,V⟩:=LE (dm (M.sp st i) (M.sp (M.step st i) i));obtain⟨c,hc⟩:=LE (M.cn (M.step st i) i);obtain⟨s2,Ko⟩:=LE (M.step st i);rw[<-hz,<-Mf]at HS ⊢;rw[<-V]at Ly ⊢;rw[<-hc]at Mq ⊢;rw[<-Ko]at Ly Mq ⊢;clear h h0 Ns b0 hz Mf V hc Ko G hk;unfold lkP at *;by_cases h1:z=1
  . subst h1;rw[if_pos rfl];cases r;. rw[if_neg ahA];go_enter func65,ntmps65;go_wp2_with fail;refine aj5 ?_;intro w1 b1 Kl;rw[KR]at Kl;refine aiP ?_;intro H1 H2 c2;go_wp2_with fail;refine aiZ ?_;intro w3 k3 Lc H3;refine aiQ ?_;intro z0 z1 z2 z3 y0 y1 y2 y3;have x0:=H3.o.2.2.1.cell 0;have x1:=H3.o.2.2.1.cell 1;have x2:=H3.o.2.2.1.cell 2;have x3:=H3.o.2.2.1.cell 3;go_wp2;exact bodyPost_ret (results_cell_row ahC _ _ w.heap.size 55 _ (0,0) _ ahC ahJ Tryz.underlying55 rfl ahB) rfl ⟨rfl,H3.o.1.set4 HG.o HM.o _ _ _ _,H3.o.2.2.2.set4 (Nat.le_refl _) _ _ _ _⟩
    . rw[if_pos rfl];go_enter func65,ntmps65;go_wp2_with fail;refine aj5 ?_;intro w1 b1 Kl;rw[KR]at Kl;refine aiP ?_;intro H1 H2 c2;go_wp2_with fail;refine aiZ ?_;intro w3 k3 Lc H3;have c3:=HL.o _ _ H3.o.1;go_wp2_with fail;refine Pi (Mq.o _ H3.o.1) λw4 I=>?_;have Ml:=I.o.size;have H:=qh (And.intro (H3.o.1.below HG.o I.o) (And.intro (H3.o.2.1.below I.o (H3.o.2.1).lt) (And.intro (H3.o.2.2.1.below I.o (H3.o.2.2.1).lt) (H3.o.2.2.2.trans (aa.of_below I.o)))));have O:w.heap.size≠w1.heap.size:=(by omega);have Wb:X.hi<=w1.heap.size:=by have:=HM.o;omega
      have H5:=qh (show(bI X ((w4.setCell ⟨w1.heap.size,0,none⟩ (J 2)).setCell ⟨w1.heap.size,3,none⟩ (J c)) s2)/\Blk ((w4.setCell ⟨w1.heap.size,0,none⟩ (J 2)).setCell ⟨w1.heap.size,3,none⟩ (J c)) w.heap.size 55 #[J 0,J 0,bool false,J 0]/\Blk ((w4.setCell ⟨w1.heap.size,0,none⟩ (J 2)).setCell ⟨w1.heap.size,3,none⟩ (J c)) w1.heap.size 55 #[J 2,J i,.bool rd,J c]/\aa (M.fp X.b) w ((w4.setCell ⟨w1.heap.size,0,none⟩ (J 2)).setCell ⟨w1.heap.size,3,none⟩ (J c))from
        ⟨(H.o.1.set HG.o Wb 0 _).set HG.o Wb 3 _,(H.o.2.1.far O _).far O _,(H.o.2.2.1.set_ 0 _).set_ 3 _,(H.o.2.2.2.setCell (.inr ain) _).setCell (.inr ain) _⟩)
      have q0:=H.o.2.2.1.free 0;have q3:=H.o.2.2.1.free 3;have ab:=H.o.2.2.1.cell 0;have ad:=H.o.2.2.1.cell 3;refine ajV ?_;intro z0 z1 z2 z3 y0 y1 y2 y3 x0 x1 x2 x3;go_wp2;exact bodyPost_ret (results_cell_row ahC _ _ w.heap.size 55 _ (0,0) _ ahC (by exact H5.o.2.1.set4) Tryz.underlying55 rfl ahB) rfl ⟨rfl,H5.o.1.set4 HG.o HM.o _ _ _ _,H5.o.2.2.2.set4 (Nat.le_refl _) _ _ _ _⟩
  have u1:(z==1)=false:=by simpa using h1
  rw[if_neg h1];clear h1;by_cases Y:z=3
  . subst Y;clear u1;rw[if_pos rfl];cases r;. rw[if_neg ahA];go_enter func65,ntmps65;go_wp2_with fail;refine aj5 ?_;intro w1 b1 Kl;rw[KR]at Kl;refine aiP ?_;intro H1 H2 c2;go_wp2_with fail;refine aiZ ?_;intro w3 k3 Lc H3;refine aiQ ?_;intro z0 z1 z2 z3 y0 y1 y2 y3;have x0:=H3.o.2.2.1.cell 0;have x1:=H3.o.2.2.1.cell 1;have x2:=H3.o.2.2.1.cell 2;have x3:=H3.o.2.2.1.cell 3;go_wp2;exact bodyPost_ret (results_cell_row ahC _ _ w.heap.size 55 _ (0,0) _ ahC ahJ Tryz.underlying55 rfl ahB) rfl ⟨rfl,H3.o.1.set4 HG.o HM.o _ _ _ _,H3.o.2.2.2.set4 (Nat.le_refl _) _ _ _ _⟩
    . rw[if_pos rfl];go_enter func65,ntmps65;go_wp2_with fail;refine aj5 ?_;intro w1 b1 Kl;rw[KR]at Kl;refine aiP ?_;intro H1 H2 c2;go_wp2_with fail;refine aiZ ?_;intro w3 k3 Lc H3;have O:w.heap.size≠w1.heap.size:=by omega
      have H5:=qh (show(bI X (w3.setCell ⟨w1.heap.size,0,none⟩ (J 4)) s2)/\Blk (w3.setCell ⟨w1.heap.size,0,none⟩ (J 4)) w.heap.size 55 #[J 0,J 0,bool false,J 0]/\Blk (w3.setCell ⟨w1.heap.size,0,none⟩ (J 4)) w1.heap.size 55 #[J 4,J i,.bool rd,J 0]/\aa (M.fp X.b) w (w3.setCell ⟨w1.heap.size,0,none⟩ (J 4))from
        ⟨H3.o.1.set HG.o ahQ 0 _,H3.o.2.1.far O _,H3.o.2.2.1.set_ 0 _,H3.o.2.2.2.setCell (.inr ain) _⟩)
      have q0:=H3.o.2.2.1.free 0;have ab:=H3.o.2.2.1.cell 0;refine ajV ?_;intro z0 z1 z2 z3 y0 y1 y2 y3 x0 x1 x2 x3;go_wp2;exact bodyPost_ret (results_cell_row ahC _ _ w.heap.size 55 _ (0,0) _ ahC (by exact H5.o.2.1.set4) Tryz.underlying55 rfl ahB) rfl ⟨rfl,H5.o.1.set4 HG.o HM.o _ _ _ _,H5.o.2.2.2.set4 (Nat.le_refl _) _ _ _ _⟩
  have u3:(z==3)=false:=by simpa using Y
  rw[if_neg Y];clear Y;go_enter func65,ntmps65;go_wp2_with fail;refine aj5 ?_;intro w1 b1 Kl;rw[KR]at Kl;refine aiP ?_;intro H1 H2 c2;have z0:=H2.o.2.1.free 0;have z1:=H2.o.2.1.free 1;have z2:=H2.o.2.1.free 2;have z3:=H2.o.2.1.free 3;have y0:=H2.o.2.1.cell 0;have y1:=H2.o.2.1.cell 1;have y2:=H2.o.2.1.cell 2;have y3:=H2.o.2.1.cell 3;have x0:=H2.o.2.2.1.cell 0;have x1:=H2.o.2.2.1.cell 1;have x2:=H2.o.2.2.1.cell 2;have x3:=H2.o.2.2.1.cell 3;go_wp2;exact bodyPost_ret (results_cell_row ahC _ _ w.heap.size 55 _ (0,0) _ ahC (by exact H2.o.2.1.set4) Tryz.underlying55 rfl ahB) rfl ⟨rfl,H2.o.1.set4 HG.o HM.o _ _ _ _,H2.o.2.2.2.set4 (Nat.le_refl _) _ _ _ _⟩
end
end
section
open Go Go.RowKit
section
variable{M:LkM n}{X:WoB M}{st st':M.σ}
theorem He(G:M.Good)(h:bI X w st)(Y:M.ok st N)(hN:N<lkB)(i:Nat)(hi:i<n)(r:Bool):E 66 #[lkP X.wb,J i,.bool r] w (wY X w (M.askE st i r).2 (evV (M.askE st i r).1)):=by
  refine aiU ?_;intro KR b0 h0 HS Ns H0 HL;have Oa:=qh (λW (s:M.σ) (k:bI X W s)=>show W.cell? ⟨X.wb,3,none⟩=some (.bool M.rd)from k.wd.cell 3);refine akc ?_;intro HM;have Lu:=qh (h.lo G);have HG:=qh G;have HA:=qh (λW (k:bI X W st)=>G.cA _ _ _ _ _ _ _ i r k.is Y hN hi);unfold LkM.askE;obtain⟨z,hz⟩:=LE (M.stt st i);obtain⟨rs,O⟩:=LE (M.rds st i);rw[<-hz,<-O]at HS;rw[<-O];clear h h0 Ns b0 hz O G Y;obtain⟨q,V⟩:=LE (decide ((M.sp st i).pc=0/\(r=true->M.rd=true)));obtain⟨rd,I⟩:=LE M.rd;obtain⟨s2,H⟩:=LE (M.ask st i r);rw[<-V,<-H]at HA;rw[<-V,<-H,<-I];rw[<-I]at Oa;clear V I H;unfold lkP at *;cases r
  . rw[if_neg ahz];cases q;. rw[if_neg ahA];go_enter func66,ntmps66;go_wp2_with fail;refine aj5 ?_;intro w1 b1 Kl;rw[KR]at Kl;refine aiW ?_;intro H1 c2 c3;go_wp2_with fail;refine aiY ?_;intro w3 k3 H3;refine aiQ ?_;intro z0 z1 z2 z3 y0 y1 y2 y3;go_wp2;exact bodyPost_ret (results_cell_row ahC _ _ w.heap.size 55 _ (0,0) _ ahC ahJ Tryz.underlying55 rfl ahB) rfl ⟨rfl,H3.o.1.set4 HG.o HM.o _ _ _ _,H3.o.2.2.set4 (Nat.le_refl _) _ _ _ _⟩
    . rw[if_pos rfl];go_enter func66,ntmps66;go_wp2_with fail;refine aj5 ?_;intro w1 b1 Kl;rw[KR]at Kl;refine aiW ?_;intro H1 c2 c3;go_wp2_with fail;refine aiY ?_;intro w3 k3 H3;refine aiQ ?_;intro z0 z1 z2 z3 y0 y1 y2 y3;go_wp2;exact bodyPost_ret (results_cell_row ahC _ _ w.heap.size 55 _ (0,0) _ ahC ahJ Tryz.underlying55 rfl ahB) rfl ⟨rfl,H3.o.1.set4 HG.o HM.o _ _ _ _,H3.o.2.2.set4 (Nat.le_refl _) _ _ _ _⟩
  . cases rd;. rw[if_pos ahC];go_enter func66,ntmps66;go_wp2_with fail;refine aj5 ?_;intro w1 b1 Kl;rw[KR]at Kl;refine aiW ?_;intro H1 c2 c3;have z0:=H1.o.2.1.free 0;have z1:=H1.o.2.1.free 1;have z2:=H1.o.2.1.free 2;have z3:=H1.o.2.1.free 3;have y0:=H1.o.2.1.cell 0;have y1:=H1.o.2.1.cell 1;have y2:=H1.o.2.1.cell 2;have y3:=H1.o.2.1.cell 3;go_wp2;exact bodyPost_ret (results_cell_row ahC _ _ w.heap.size 55 _ (0,0) _ ahC (by exact H1.o.2.1.set4) Tryz.underlying55 rfl ahB) rfl ⟨rfl,H1.o.1.set4 HG.o HM.o _ _ _ _,H1.o.2.2.set4 (Nat.le_refl _) _ _ _ _⟩
    . rw[if_neg ahz];cases q;. rw[if_neg ahA];go_enter func66,ntmps66;go_wp2_with fail;refine aj5 ?_;intro w1 b1 Kl;rw[KR]at Kl;refine aiW ?_;intro H1 c2 c3;go_wp2_with fail;refine aiY ?_;intro w3 k3 H3;refine aiQ ?_;intro z0 z1 z2 z3 y0 y1 y2 y3;go_wp2;exact bodyPost_ret (results_cell_row ahC _ _ w.heap.size 55 _ (0,0) _ ahC ahJ Tryz.underlying55 rfl ahB) rfl ⟨rfl,H3.o.1.set4 HG.o HM.o _ _ _ _,H3.o.2.2.set4 (Nat.le_refl _) _ _ _ _⟩
      . rw[if_pos rfl];go_enter func66,ntmps66;go_wp2_with fail;refine aj5 ?_;intro w1 b1 Kl;rw[KR]at Kl;refine aiW ?_;intro H1 c2 c3;go_wp2_with fail;refine aiY ?_;intro w3 k3 H3;refine aiQ ?_;intro z0 z1 z2 z3 y0 y1 y2 y3;go_wp2;exact bodyPost_ret (results_cell_row ahC _ _ w.heap.size 55 _ (0,0) _ ahC ahJ Tryz.underlying55 rfl ahB) rfl ⟨rfl,H3.o.1.set4 HG.o HM.o _ _ _ _,H3.o.2.2.set4 (Nat.le_refl _) _ _ _ _⟩
theorem Ed(G:M.Good)(h:bI X w st)(V:M.ok st N)(hN:N<lkB)(i:Nat)(hi:i<n)(r:Bool):E 67 #[lkP X.wb,J i,.bool r] w (wY X w (M.leaveE st i r).2 (evV (M.leaveE st i r).1)):=by
  refine aiU ?_;intro KR b0 h0 HS Ns H0 HL;have Oa:=qh (λW (s:M.σ) (k:bI X W s)=>show W.cell? ⟨X.wb,3,none⟩=some (.bool M.rd)from k.wd.cell 3);refine akc ?_;intro HM;have Lu:=qh (h.lo G);have HG:=qh G;have HA:=qh (λW (k:bI X W st)=>G.cL _ _ _ _ _ _ _ i k.is V hN hi);unfold LkM.leaveE;obtain⟨z,Y⟩:=LE (M.stt st i);obtain⟨rs,I⟩:=LE (M.rds st i);rw[<-Y,<-I]at HS;rw[<-I];clear h h0 Ns b0 Y I G V;obtain⟨q,O⟩:=LE (decide ((M.sp st i).pc=10));obtain⟨s2,H⟩:=LE (M.leave st i);rw[<-O,<-H]at HA;rw[<-O,<-H];clear O H;unfold lkP at *;by_cases hd:rs=r
  . subst hd;rw[if_neg ahz];cases q;. rw[if_neg ahA];go_enter func67,ntmps67;go_wp2_with fail;refine aj5 ?_;intro w1 b1 Kl;rw[KR]at Kl;refine aiW ?_;intro H1 c2 c3;go_wp2_with fail;refine aiY ?_;intro w3 k3 H3;refine aiQ ?_;intro z0 z1 z2 z3 y0 y1 y2 y3;go_wp2;exact bodyPost_ret (results_cell_row ahC _ _ w.heap.size 55 _ (0,0) _ ahC ahJ Tryz.underlying55 rfl ahB) rfl ⟨rfl,H3.o.1.set4 HG.o HM.o _ _ _ _,H3.o.2.2.set4 (Nat.le_refl _) _ _ _ _⟩
    . rw[if_pos rfl];go_enter func67,ntmps67;go_wp2_with fail;refine aj5 ?_;intro w1 b1 Kl;rw[KR]at Kl;refine aiW ?_;intro H1 c2 c3;go_wp2_with fail;refine aiY ?_;intro w3 k3 H3;refine aiQ ?_;intro z0 z1 z2 z3 y0 y1 y2 y3;go_wp2;exact bodyPost_ret (results_cell_row ahC _ _ w.heap.size 55 _ (0,0) _ ahC ahJ Tryz.underlying55 rfl ahB) rfl ⟨rfl,H3.o.1.set4 HG.o HM.o _ _ _ _,H3.o.2.2.set4 (Nat.le_refl _) _ _ _ _⟩
  . obtain rfl:rs=!r:=by cases rs<;>cases r<;>simp_all
    rw[if_pos ahz];clear hd;go_enter func67,ntmps67;go_wp2_with fail;refine aj5 ?_;intro w1 b1 Kl;rw[KR]at Kl;refine aiW ?_;intro H1 c2 c3;have z0:=H1.o.2.1.free 0;have z1:=H1.o.2.1.free 1;have z2:=H1.o.2.1.free 2;have z3:=H1.o.2.1.free 3;have y0:=H1.o.2.1.cell 0;have y1:=H1.o.2.1.cell 1;have y2:=H1.o.2.1.cell 2;have y3:=H1.o.2.1.cell 3;go_wp2;exact bodyPost_ret (results_cell_row ahC _ _ w.heap.size 55 _ (0,0) _ ahC (by exact H1.o.2.1.set4) Tryz.underlying55 rfl ahB) rfl ⟨rfl,H1.o.1.set4 HG.o HM.o _ _ _ _,H1.o.2.2.set4 (Nat.le_refl _) _ _ _ _⟩
end
end
section
open Go Go.RowKit
section
variable{M:LkM n}{X:WoB M}{st st':M.σ}
theorem doW(G:M.Good)(h:bI X w st)(hk:M.ok st N)(hN:N<lkB)(p:Int×Int):E 25 #[lkP X.wb,agg #[J p.1,J p.2]] w (wY X w (M.pick st p).2 (evV (M.pick st p).1)):=by
  obtain⟨t,k⟩:=p;have bA:=((Below.refl w.heap.size w).alloc (Nat.le_refl _) (cells #[J t,J k] 58)).alloc ahz (cells #[J 0,J 0,bool false,J 0] 55);have h0:=h.below G bA;have Q5:=(Blk.new w 58 #[J t,J k]).alloc (cells #[J 0,J 0,bool false,J 0] 55);have Ns:=Blk.new' (w.alloc (cells #[J t,J k] 58)) 55 #[J 0,J 0,bool false,J 0] (g:=w.heap.size+1) ahz;have Rc:aa (M.fp X.b) w ((w.alloc (cells #[J t,J k] 58)).alloc (cells #[J 0,J 0,bool false,J 0] 55)):=((aa.refl _ _).alloc _).alloc _;have Lu:=qh (h.lo G);refine akc ?_;intro HM;obtain⟨w0,E'⟩:=LE (((w.alloc (cells #[J t,J k] 58)).alloc (cells #[J 0,J 0,bool false,J 0] 55)));rw[<-E']at h0 Q5 Ns Rc;have Xk:w0.heap.size=w.heap.size+2:=by rw[E'];simp
  have hD:∀m,bI X (w0.drewN m) st:=λm=>h0.below G (Qt.below (⟨m,rfl⟩:Qt w0 (w0.drewN m)) w0.heap.size);have HT:=qh (λm=>pN G (hD m));have Ly:=qh (λm i hi=>kZ G (hD m) i hi);have H':=qh (λm i hi=>Jh G (hD m) hk hN i hi);have Y:=qh (λm i hi r=>He G (hD m) hk hN i hi r);have V:=qh (λm i hi r=>Ed G (hD m) hk hN i hi r);have O:=qh (λm=>And.intro (hD m) (And.intro (Q5.drewN m) (And.intro (Ns.drewN m) (Rc.drewN m))));have c0:w0.cell? w.heap.size=some (J t):=Q5.cell 0;have c1:Z w0 w.heap.size 1 (J k):=Q5.cell 1;have Ln:=qh E';have HG:=qh G;unfold LkM.pick evV;clear h h0 Q5 Ns Rc hD E' G hk bA;simp only;by_cases hi:0<=t/\t<n
  . obtain⟨i,rfl⟩:=Int.eq_ofNat_of_zero_le hi.1;have I:i<n:=(by omega);rw[if_pos hi];simp only[Int.toNat_natCast];unfold lkP at *;have t1:decide ((i:Int)<0)=false:=decide_eq_false ahy;have t2:decide ((i:Int) >= (n:Int))=false:=decide_eq_false ahy;clear hi;by_cases k0:k=0;. subst k0;rw[if_pos rfl];replace H':=qh (λm=>H'.o m i I);obtain⟨x,H⟩:=LE (M.stepE st i);rw[<-H]at H' ⊢;clear H;obtain⟨⟨x1,x2,x3,x4⟩,s2⟩:=x;unfold evV at H';go_enter func25,ntmps25;go_wp2_with fail;rw[<-Ln.o];go_quiet ((go_at_call 61;exact bN (HT.o _)));go_wp2_with fail;refine Pi (H'.o _) λw3 k3=>?_;have hB:=O.o nq;refine ajb ?_;intro H3;clear hB;refine aiQ ?_;intro z0 z1 z2 z3 y0 y1 y2 y3;go_wp2;exact bodyPost_ret (results_cell_row ahC _ _ (w.heap.size+1) 55 _ (0,0) _ ahC ahJ Tryz.underlying55 rfl ahB) rfl ⟨rfl,H3.o.1.set4 HG.o ahQ _ _ _ _,H3.o.2.2.set4 ahy _ _ _ _⟩
    by_cases k1:k=1;. subst k1;rw[if_neg ahA,if_pos ahA,show decide ((1:Int)=3)=false from rfl];replace Y:=qh (λm=>Y.o m i I false);obtain⟨x,H⟩:=LE (M.askE st i false);rw[<-H]at Y ⊢;clear H;obtain⟨⟨x1,x2,x3,x4⟩,s2⟩:=x;unfold evV at Y;go_enter func25,ntmps25;go_wp2_with fail;rw[<-Ln.o];go_quiet ((go_at_call 61;exact bN (HT.o _)));go_wp2_with fail;refine Pi (Y.o _) λw3 k3=>?_;have hB:=O.o nq;refine ajb ?_;intro H3;clear hB;refine aiQ ?_;intro z0 z1 z2 z3 y0 y1 y2 y3;go_wp2;exact bodyPost_ret (results_cell_row ahC _ _ (w.heap.size+1) 55 _ (0,0) _ ahC ahJ Tryz.underlying55 rfl ahB) rfl ⟨rfl,H3.o.1.set4 HG.o ahQ _ _ _ _,H3.o.2.2.set4 ahy _ _ _ _⟩
    by_cases k3:k=3;. subst k3;rw[if_neg ahA,if_pos ahA,show decide ((3:Int)=3)=true from rfl];replace Y:=qh (λm=>Y.o m i I true);obtain⟨x,H⟩:=LE (M.askE st i true);rw[<-H]at Y ⊢;clear H;obtain⟨⟨x1,x2,x3,x4⟩,s2⟩:=x;unfold evV at Y;go_enter func25,ntmps25;go_wp2_with fail;rw[<-Ln.o];go_quiet ((go_at_call 61;exact bN (HT.o _)));go_wp2_with fail;refine Pi (Y.o _) λw3 k3=>?_;have hB:=O.o nq;refine ajb ?_;intro H3;clear hB;refine aiQ ?_;intro z0 z1 z2 z3 y0 y1 y2 y3;go_wp2;exact bodyPost_ret (results_cell_row ahC _ _ (w.heap.size+1) 55 _ (0,0) _ ahC ahJ Tryz.underlying55 rfl ahB) rfl ⟨rfl,H3.o.1.set4 HG.o ahQ _ _ _ _,H3.o.2.2.set4 ahy _ _ _ _⟩
    by_cases k2:k=2;. subst k2;rw[if_neg ahA,if_neg ahA,if_pos ahA,show decide ((2:Int)=4)=false from rfl];replace V:=qh (λm=>V.o m i I false);obtain⟨x,H⟩:=LE (M.leaveE st i false);rw[<-H]at V ⊢;clear H;obtain⟨⟨x1,x2,x3,x4⟩,s2⟩:=x;unfold evV at V;go_enter func25,ntmps25;go_wp2_with fail;rw[<-Ln.o];go_quiet ((go_at_call 61;exact bN (HT.o _)));go_wp2_with fail;refine Pi (V.o _) λw3 k3=>?_;have hB:=O.o nq;refine ajb ?_;intro H3;clear hB;refine aiQ ?_;intro z0 z1 z2 z3 y0 y1 y2 y3;go_wp2;exact bodyPost_ret (results_cell_row ahC _ _ (w.heap.size+1) 55 _ (0,0) _ ahC ahJ Tryz.underlying55 rfl ahB) rfl ⟨rfl,H3.o.1.set4 HG.o ahQ _ _ _ _,H3.o.2.2.set4 ahy _ _ _ _⟩
    by_cases k4:k=4;. subst k4;rw[if_neg ahA,if_neg ahA,if_pos ahA,show decide ((4:Int)=4)=true from rfl];replace V:=qh (λm=>V.o m i I true);obtain⟨x,H⟩:=LE (M.leaveE st i true);rw[<-H]at V ⊢;clear H;obtain⟨⟨x1,x2,x3,x4⟩,s2⟩:=x;unfold evV at V;go_enter func25,ntmps25;go_wp2_with fail;rw[<-Ln.o];go_quiet ((go_at_call 61;exact bN (HT.o _)));go_wp2_with fail;refine Pi (V.o _) λw3 k3=>?_;have hB:=O.o nq;refine ajb ?_;intro H3;clear hB;refine aiQ ?_;intro z0 z1 z2 z3 y0 y1 y2 y3;go_wp2;exact bodyPost_ret (results_cell_row ahC _ _ (w.heap.size+1) 55 _ (0,0) _ ahC ahJ Tryz.underlying55 rfl ahB) rfl ⟨rfl,H3.o.1.set4 HG.o ahQ _ _ _ _,H3.o.2.2.set4 ahy _ _ _ _⟩
    have u0:(k==0)=false:=(by simpa using k0);have u1:(k==1)=false:=(by simpa using k1);have u2:(k==2)=false:=(by simpa using k2);have u3:(k==3)=false:=(by simpa using k3);have u4:(k==4)=false:=(by simpa using k4);rw[if_neg k0,if_neg ahy,if_neg ahy];clear k0 k1 k2 k3 k4;replace Ly:=qh (λm=>Ly.o m i I);obtain⟨z,hz⟩:=LE (M.stt st i);obtain⟨rs,NY⟩:=LE (M.rds st i);rw[<-hz,<-NY]at Ly;rw[<-NY];clear hz NY;go_enter func25,ntmps25;go_wp2_with fail;rw[<-Ln.o];go_quiet ((go_at_call 61;exact bN (HT.o _)));go_wp2_with fail;refine Pi (Ly.o _) λw3 b3=>?_;have hB:=O.o nq;have H3:=qh (And.intro (hB.1.below HG.o b3.o) (And.intro (hB.2.2.1.below b3.o hB.2.2.1.lt) (And.intro (hB.2.2.2.trans (aa.of_below b3.o)) (hB.2.1.below b3.o hB.2.1.lt))));have c0:w3.cell? w.heap.size=some (J i):=H3.o.2.2.2.cell 0;clear hB;replace H3:=qh (And.intro H3.o.1 (And.intro H3.o.2.1 H3.o.2.2.1));refine aiQ ?_;intro z0 z1 z2 z3 y0 y1 y2 y3;go_wp2;exact bodyPost_ret (results_cell_row ahC _ _ (w.heap.size+1) 55 _ (0,0) _ ahC ahJ Tryz.underlying55 rfl ahB) rfl ⟨rfl,H3.o.1.set4 HG.o ahQ _ _ _ _,H3.o.2.2.set4 ahy _ _ _ _⟩
  . rw[if_neg hi];unfold lkP at *;by_cases h0:t<0;. have t1:decide (t<0)=true:=decide_eq_true h0;clear hi h0;go_enter func25,ntmps25;go_wp2_with fail;rw[<-Ln.o];go_quiet (fail);have H3:=qh (show bI X (w0.drewN nq) st/\Blk (w0.drewN nq) (w.heap.size+1) 55 #[J 0,J 0,bool false,J 0]/\aa (M.fp X.b) w (w0.drewN nq)from⟨(O.o nq).1,(O.o nq).2.2.1,(O.o nq).2.2.2⟩);refine aiQ ?_;intro z0 z1 z2 z3 y0 y1 y2 y3;go_wp2;exact bodyPost_ret (results_cell_row ahC _ _ (w.heap.size+1) 55 _ (0,0) _ ahC ahJ Tryz.underlying55 rfl ahB) rfl ⟨rfl,H3.o.1.set4 HG.o ahQ _ _ _ _,H3.o.2.2.set4 ahy _ _ _ _⟩
    . have t1:decide (t<0)=false:=decide_eq_false h0;have t2:decide (t >= (n:Int))=true:=decide_eq_true ahy;clear hi h0;go_enter func25,ntmps25;go_wp2_with fail;rw[<-Ln.o];go_quiet ((go_at_call 61;exact bN (HT.o _)));have H3:=qh (show bI X (w0.drewN nq) st/\Blk (w0.drewN nq) (w.heap.size+1) 55 #[J 0,J 0,bool false,J 0]/\aa (M.fp X.b) w (w0.drewN nq)from⟨(O.o nq).1,(O.o nq).2.2.1,(O.o nq).2.2.2⟩);refine aiQ ?_;intro z0 z1 z2 z3 y0 y1 y2 y3;go_wp2;exact bodyPost_ret (results_cell_row ahC _ _ (w.heap.size+1) 55 _ (0,0) _ ahC ahJ Tryz.underlying55 rfl ahB) rfl ⟨rfl,H3.o.1.set4 HG.o ahQ _ _ _ _,H3.o.2.2.set4 ahy _ _ _ _⟩
end
end
section
open Go.RowKit
variable{P:List Int}{k:Nat}{p:Int}{α:Type}
def okP(P:List Int)(v:Nat):Bool:=decide ((v=0->P.getD v 0= -1)/\(0<v->0<=P.getD v 0/\P.getD v 0<v))
def dX(P:List Int):Bool:=(List.range P.length).all (okP P)
def dq(P:List Int)(v:Int):Bool:=decide (0<=v/\v<P.length/\v∉P)
def am(P:List Int)(k:Nat):List Int:=((List.range k).map Int.ofNat).filter (dq P)
def ac(P:List Int):List Int:=am P P.length
def dep(P:List Int):Nat->Int->Nat
 |0,_=>0
 |f+1,v=>if 0<=v/\v<P.length then dep P f (P.getD v.toNat 0)+1 else 0
def depL(P:List Int)(v:Int):Nat:=dep P P.length v
def kJ(P:List Int):Bool:=(ac P).all λv=>decide (depL P v=depL P ((ac P).headD 0)/\depL P v<=5)
def thrB(P T:List Int):Bool:=T.all (dq P)
def jW(P T:List Int):Bool:=decide (P.length<1\/32<P.length\/T.length<1\/32<T.length)
def a5(P T:List Int):Int:=if jW P T then 8 else if dX P=false then 9 else if kJ P=false then 9 else if thrB P T=false then 4 else 0
def bp(h:P[k]? =some p):P.getD k 0=p:=by rw[List.getD_eq_getElem?_getD,h];rfl
def j3(f:Nat->Bool)(k:Nat):(List.range (k+1)).all f=((List.range k).all f&&f k):=by rw[List.range_succ,List.all_append];simp
def x8(h:dX P=true)(H:P[k]? =some p):(k=0->p= -1)/\(0<k->0<=p/\p<k):=by have I:=(List.getElem?_eq_some_iff.1 H).1;unfold dX at h;rw[List.all_eq_true]at h;have:=h k (List.mem_range.2 I);simp only[okP,decide_eq_true_eq,bp H]at this;exact this
def gJ(h:dX P=true)(I:P[k]? =some p):-1<=p/\p<k:=by
 have:=x8 h I;rcases Nat.eq_zero_or_pos k with H|H
 .have:=this.1 H;omega
 .have:=this.2 H;omega
def oM{P:List Int}(h:dX P=true):∀(f:Nat) (v:Int),v<f->∀g:Nat,v<g->dep P f v=dep P g v
 |0,v,O,g,hg=>by
  cases g with
  |zero=>rfl
  |succ g=>unfold dep;rw[if_neg ahy]
 |f+1,v,O,g,hg=>by
  cases g with
  |zero=>unfold dep;rw[if_neg ahy]
  |succ g=>
   unfold dep;split;.rename_i I;obtain⟨p,H⟩:=ai (show v.toNat<P.length by omega);have:=gJ h H;rw[bp H,oM h f p ahy g ahy]
   .rfl
def iM(h:dX P=true)(H:P[k]? =some p):depL P k=if 0<=p then depL P p+1 else 1:=by
 have I:=(List.getElem?_eq_some_iff.1 H).1;have O:=gJ h H;unfold depL;rw[oM h P.length k ahy (k+1) ahy];show(if 0<=(k:Int)/\(k:Int)<P.length then dep P k (P.getD (k:Int).toNat 0)+1 else 0)=_;rw[if_pos ahy,Int.toNat_natCast,bp H];split;.rw[oM h k p ahy P.length ahy]
 .have:dep P k p=0:=by
   cases k with
   |zero=>rfl
   |succ k=>unfold dep;rw[if_neg ahy]
  omega
def A8(P:List Int):∀(f:Nat) (v:Int),dep P f v<=f
 |0,_=>Nat.le_refl _
 |f+1,v=>by
  unfold dep;split;.have:=A8 P f (P.getD v.toNat 0);omega
  .omega
def DH(P:List Int)(v:Int):depL P v<=P.length:=A8 P _ _
def cJ(P:List Int)(k:Nat):am P (k+1)=if dq P k then am P k++[(k:Int)]else am P k:=by
 unfold am;rw[List.range_succ,List.map_append,List.filter_append];show _++List.filter (dq P) [(k:Int)]=_;by_cases h:dq P k=true;.simp[h]
 .simp[h]
def a8(P:List Int):∀k,(am P k).length<=k:=λk=>by
 unfold am
 have:=List.length_filter_le (dq P) ((List.range k).map Int.ofNat)
 simpa using this
def fO{v:Int}:v∈ac P↔dq P v=true:=by
 unfold ac am;rw[List.mem_filter];constructor;.exact λh=>h.2
 .intro h;refine⟨?_,h⟩;simp only[dq,decide_eq_true_eq]at h;rw[List.mem_map];exact⟨v.toNat,List.mem_range.2 ahy,by show((v.toNat:Nat):Int)=v;omega⟩
def iY(h:P[k]? =some p)(x:Int):x∈P.take (k+1)↔x∈P.take k\/x=p:=by rw[a9 h];simp
def qE(n i:Nat)(f g:Nat->α)(u:α)(hi:g i=u)(Y:∀j,j≠i->g j=f j):((List.range n).map f).set i u=(List.range n).map g:=by
 refine List.ext_getElem? λj=>?_;rw[List.getElem?_set];by_cases I:i=j
 .subst I;rw[if_pos rfl];by_cases H:i<n;.simp[H,hi]
  .simp[H]
 .rw[if_neg I];by_cases O:j<n;.simp[O,Y j (λh=>I h.symm)]
  .simp[O]
def i8(n i:Nat)(f:Nat->α)(h:i<n):((List.range n).map f)[i]? =some (f i):=by simp[h]
end
section
open Go.RowKit
variable{l:List Int}{k:Nat}{p:Int->Bool}
def fM(l:List Int)(x:Int):Int:=if x∈l then((l.idxOf x:Nat):Int)else -1
def D7(h:l[k]? =some x)(V:x∉l.take k):fM l x=k:=by
 unfold fM;have hm:x∈l:=List.mem_of_getElem? h;obtain⟨I,H⟩:=List.getElem?_eq_some_iff.1 h;rw[if_pos hm];have O:l=l.take k++(x :: l.drop (k+1)):=by conv=>lhs;rw[<-List.take_append_drop k l,List.drop_eq_getElem_cons I,H]
 have:l.idxOf x=k:=by rw[O,List.idxOf_append];rw[if_neg V,List.idxOf_cons_self];simp;omega
 rw[this]
def BK(h:x∉l):fM l x= -1:=by unfold fM;rw[if_neg h]
def eV(l:List Int)(x:Int):(0<=fM l x↔x∈l)/\fM l x<l.length/\-1<=fM l x:=by
 unfold fM;split;.rename_i h;have:=List.idxOf_lt_length_of_mem h;exact⟨by simp[h],by omega,by omega⟩
 .rename_i h;exact⟨by simp[h],by omega,by omega⟩
def oS(p:Int->Bool)(l:List Int):Int:=match l.findIdx? p with|some i=>(i:Int)|none=>-1
def Bq(h:l[k]? =some x)(V:p x=true)(O:∀y∈l.take k,p y=false):oS p l=k:=by
 obtain⟨I,H⟩:=List.getElem?_eq_some_iff.1 h;have:l.findIdx? p=some k:=by rw[List.findIdx?_eq_some_iff_getElem];refine⟨I,by rw[H];exact V,λj Y=>?_⟩;have:=O l[j] (List.mem_take_iff_getElem.2 ⟨j,by omega,rfl⟩);simp[this]
 unfold oS;rw[this]
def yM(h:∀y∈l,p y=false):oS p l= -1:=by
 have:l.findIdx? p=none:=by rw[List.findIdx?_eq_none_iff];exact h
 unfold oS;rw[this]
def ta(p:Int->Bool)(l:List Int):(decide (0<=oS p l)=l.any p)/\oS p l<l.length/\-1<=oS p l:=by
 unfold oS;cases h:l.findIdx? p with
 |none=>rw[List.findIdx?_eq_none_iff]at h;refine⟨?_,by show(-1:Int)<_;omega,by show(-1:Int)<=-1;omega⟩;symm;show _=decide ((0:Int)<=-1);rw[show decide ((0:Int)<=-1)=false from rfl,List.any_eq_false];intro x I H;rw[h x I]at H;cases H
 |some i=>rw[List.findIdx?_eq_some_iff_getElem]at h;obtain⟨hi,H,_⟩:=h;refine⟨?_,by show(i:Int)<_;omega,by show(-1:Int)<=(i:Int);omega⟩;rw[decide_eq_true (show(0:Int)<=(i:Int)by omega)];symm;rw[List.any_eq_true];exact⟨l[i],List.getElem_mem hi,H⟩
def mF(w:World)(v:Value)(l:List Int)(x:Int)(h:RdL w v 1 encI l):E 119 #[v,J x] w λe w'=>e= returned (J (fM l x))/\w=w':=by
  obtain⟨A,cap,rfl,l1,l2,V⟩:=h;have HR:=qh V;clear V;go_enter func119,ntmps119;go_wp2;go_loop [8] (λi=>∃k:Nat,i= J k/\k<=l.length/\x∉l.take k) (λi=>l.length-(intOf i).toNat);case atStart=>exact⟨0,rfl,by omega,by simp⟩
  case round=>
    obtain⟨k,rfl,hk,H⟩:=hrel;by_cases C':k<l.length
    . obtain⟨bl,off,rfl,Lf,hc⟩:=HR.o ahy;obtain⟨y,Y⟩:=ai C';have c0:=hc k y Y 0 _ rfl;simp only[Nat.add_zero,Nat.mul_one]at c0;have I:=qh (And.intro Y H);clear hc Y H;cases O:(x==y)
      . have ab:Kq (x∉l.take (k+1)):=qh (by
          rw[iY I.o.1];rintro(h|h);. exact I.o.2 h
          . rw[h]at O;simp at O)
        go_wp2;go_round;case rel=>exact⟨k+1,by go_num,by omega,ab.o⟩
        case measure=>simp[intOf];omega
      . have hid:Kq (fM l x=k):=qh (D7 (by rw[beq_iff_eq.1 O];exact I.o.1) I.o.2);go_wp2;go_ret;exact⟨aU hid.o.symm,rfl⟩
    . obtain rfl:k=l.length:=by omega
      rw[List.take_length]at H;have hid:Kq (fM l x= -1):=qh (BK H);clear H;go_wp2;go_ret;exact⟨aU hid.o.symm,rfl⟩
def rb(w:World)(v:Value)(l:List Int)(x:Int)(h:RdL w v 1 encI l):E 87 #[v,J x] w λe w'=>e= returned (bool (decide (x∈l)))/\w=w':=by have O:=qh (mF w v l x h);have I:decide (x∈l)=decide (0<=fM l x):=decide_eq_decide.2 (eV l x).1.symm;have H:=qh I;clear h I;go_enter func87,ntmps87;go_wp2_with (go_at_call 119;refine O.o.mono ?_;rintro e w' ⟨rfl,rfl⟩);go_ret;exact⟨az H.o.symm,rfl⟩
def AF(w:World)(b:Nat)(v:Value)(l:List Int)(x:Int)(hc:w.cell? b=some v)(h:RdL w v 1 encI l):E 86 #[J x,↑b] w λe w'=>e= returned (bool (!decide (x∈l)))/\w=w':=by have H:=qh (rb w v l x h);clear h;go_enter func86,ntmps86;go_wp2_with (go_at_call 87;refine H.o.mono ?_;rintro e w' ⟨rfl,rfl⟩);go_ret;exact⟨az ahz,rfl⟩
def AG(w:World)(b:Nat)(ve v:Value)(en l:List Int)(Ny:w.cell? b=some ve)(Rq:RdL w ve 1 encI en)(h:RdL w v 1 encI l):E 118 #[v,.func (.func 86) #[] #[↑b]] w λe w'=>e= returned (J (oS (λx=>!decide (x∈en)) l))/\w=w':=by
  obtain⟨A,cap,rfl,l1,l2,V⟩:=h;have HR:=qh V;have HE:=qh (And.intro Ny Rq);clear V Ny Rq;go_enter func118,ntmps118;go_wp2;go_loop [8] (λi=>∃k:Nat,i= J k/\k<=l.length/\∀x∈l.take k,(!decide (x∈en))=false) (λi=>l.length-(intOf i).toNat);case atStart=>exact⟨0,rfl,by omega,by simp⟩
  case round=>
    obtain⟨k,rfl,hk,I⟩:=hrel;by_cases C':k<l.length
    . obtain⟨bl,off,rfl,Lf,hc⟩:=HR.o ahy;obtain⟨y,hy⟩:=ai C';have c0:=hc k y hy 0 _ rfl;simp only[Nat.add_zero,Nat.mul_one]at c0;have Y:=qh (And.intro hy I);clear hc hy I;have O:=qh (AF w b ve en y HE.o.1 HE.o.2);cases H:(!decide (y∈en))
      . have ab:Kq (∀x∈l.take (k+1),(!decide (x∈en))=false):=qh (by
          intro x hx;rcases(iY Y.o.1 x).1 hx with h|h
          . exact Y.o.2 x h
          . rw[h];exact H)
        rw[H]at O;clear H;go_wp2_with (go_at_call 86;refine O.o.mono ?_;rintro e w' ⟨rfl,rfl⟩);go_round;case rel=>exact⟨k+1,by go_num,by omega,ab.o⟩
        case measure=>simp[intOf];omega
      . have hid:Kq (oS (λx=>!decide (x∈en)) l=k):=qh (Bq Y.o.1 H Y.o.2);rw[H]at O;clear H;go_wp2_with (go_at_call 86;refine O.o.mono ?_;rintro e w' ⟨rfl,rfl⟩);go_ret;exact⟨aU hid.o.symm,rfl⟩
    . obtain rfl:k=l.length:=by omega
      rw[List.take_length]at I;have hid:Kq (oS (λx=>!decide (x∈en)) l= -1):=qh (yM I);clear I;go_wp2;go_ret;exact⟨aU hid.o.symm,rfl⟩
def mD(w:World)(b:Nat)(H v:Value)(en l:List Int)(I:w.cell? b=some H)(O:RdL w H 1 encI en)(h:RdL w v 1 encI l):E 85 #[v,.func (.func 86) #[] #[↑b]] w λe w'=>e= returned (bool (l.any λx=>!decide (x∈en)))/\w=w':=by have Y:=qh (AG w b H v en l I O h);have V:=qh (ta (λx=>!decide (x∈en)) l).1;clear h I O;go_enter func85,ntmps85;go_wp2_with (go_at_call 118;refine Y.o.mono ?_;rintro e w' ⟨rfl,rfl⟩);go_ret;exact⟨az V.o,rfl⟩
end
section
open Go Go.RowKit
def rY{P:Prop}(h:P:=by
    have hs:w.heap.size<w2.heap.size:=by have:=b2.size;simp at this;omega
    have I:Blk w2 w.heap.size 113 #[J 0,J 0,J 0,J 0]:=aa.blk (S:=[]) (aa.of_below b2) (Blk.new w 113 #[J 0,J 0,J 0,J 0]) ahz
    have z0:=I.cell 0
    have z1:=I.cell 1
    have z2:=I.cell 2
    have z3:=I.cell 3
    have f0:=I.free 0
    have f1:=I.free 1
    have f2:=I.free 2
    have f3:=I.free 3
    have H2:=qh (And.intro b2 I)
    clear b2 I
    obtain⟨pc,u,b,z⟩:=p
    unfold aC
    go_wp2
    exact bodyPost_ret (results_cell_row ahC _ _ w.heap.size 113 _ (0,0) _ ahC aiF Tryz.underlying113 rfl ahB) rfl ⟨rfl,((((HB.o.trans (H2.o.1.mono ahz)).setCell (Nat.le_refl _) _).setCell (Nat.le_refl _) _).setCell (Nat.le_refl _) _).setCell (Nat.le_refl _) _⟩):P:=h
end
end Go.Proofs.YtglokdbiggbkjaaGreat
