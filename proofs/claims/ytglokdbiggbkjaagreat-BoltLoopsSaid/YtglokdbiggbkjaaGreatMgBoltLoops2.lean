/- Joined texts. -/
import Derived.WalkKit
import Derived.WalkSpells
import Derived.WalkLawsBesides
import Derived.ProofKit
import Derived.Below
import Derived.Outline
import Derived.Lib.Hide
import Derived.Deep.QuietTactic
import Derived.BigQuiet
import Derived.Deep.Draws
import Derived.Maps.OwnSet
import Derived.Maps.OwnOps
import Derived.Test.YtglokdbiggbkjaaGreatRows
import Derived.OpenShut
import Derived.Deep.Slices
import Derived.Deep.Fields
import Derived.ChangeSame
import Derived.Carry
import GoSem.Core.View
import Derived.RegionCalls
import Derived.StillTailTactics
import Derived.Laws.LoneSync
import Derived.Laws.OwnMore
import Derived.OwnWalk
import Derived.Deep.RegionHeld3
import Derived.Test.YtglokdbiggbkjaaGreatMgBoltLoops0
set_option linter.unusedVariables false
set_option linter.unusedSimpArgs false
set_option linter.defProp false
set_option maxRecDepth 100000
set_option maxHeartbeats 16000000
open Go.Proofs.Tryz
namespace Go.Proofs.YtglokdbiggbkjaaGreat
open Go.IntKind(i64)
open Go.Value(int bool slice agg tuple pointer)
open Go.Ending(returned)
open Go.Obj(cells)
variable{P:Program}{B sz base n Nr b0 i N Ze:Nat}{w w':World}{v:Value}{e t:TypeId}{args cs:Array Value}{p:Addr}{xs:List Value}{Pu:Nat->Bool}{Ph:Bool}{S T:List Nat}{x:Int}
section
open Go.RowKit
variable{f:FuncId}
def RdL{α:Type}(w:World)(v:Value)(sz:Nat)(enc:α->List Value)(l:List α):Prop:=
 ∃A cap,v= .slice A l.length cap/\l.length<=cap/\l.length<=140737488355328/\
  (0<l.length->∃b off,A=some ⟨b,off,none⟩/\b<w.heap.size/\∀i x,l[i]? =some x->∀j u,(enc x)[j]? =some u->Z w b (off+i*sz+j) u)
def Qt(w w':World):Prop:=∃n,w'=w.drewN n
def Qt.refl(w:World):Qt w w:=⟨0,rfl⟩
def Qt.trans{a b c:World}(h:Qt a b)(k:Qt b c):Qt a c:=by obtain⟨n,rfl⟩:=h;obtain⟨m,rfl⟩:=k;exact⟨n+m,by rw[World.drewN_drewN]⟩
def ce{a:World}(h:Below B a w)(n:Nat):Below B a (w.drewN n):=⟨h.os,h.tape,h.output,h.size,h.block⟩
def Qt.below(h:Qt w w')(B:Nat):Below B w w':=by obtain⟨n,rfl⟩:=h;exact ce (Below.refl _ _) n
def aI{a:Addr}(h:w.cell? a=some v):a.block<w.heap.size:=World.block_lt_of_cell? w a h
section
variable{α:Type}{enc:α->List Value}{l:List α}
def RdL.keep(h:RdL w v sz enc l)(hs:w.heap.size<=w'.heap.size)(V:∀p:Addr,p.block<w.heap.size->w'.cell? p=w.cell? p):RdL w' v sz enc l:=by obtain⟨A,cap,h1,H,I,O⟩:=h;refine⟨A,cap,h1,H,I,λY=>?_⟩;obtain⟨b,off,e,hb,hc⟩:=O Y;exact⟨b,off,e,by omega,λi x hx j u hu=>(V _ hb).trans (hc i x hx j u hu)⟩
def RdL.below(h:RdL w v sz enc l)(hb:Below B w w')(H:w.heap.size<=B):RdL w' v sz enc l:=
 h.keep hb.size λp I=>hb.cell ahB
def RdL.drewN(h:RdL w v sz enc l)(n:Nat):RdL (w.drewN n) v sz enc l:=h
def RdL.qt(h:RdL w v sz enc l)(q:Qt w w'):RdL w' v sz enc l:=by obtain⟨n,rfl⟩:=q;exact h
def RdL.alloc(h:RdL w v sz enc l)(o:Obj):RdL (w.alloc o) v sz enc l:=h.keep ahC λp H=>World.cell?_alloc_lt w o p H
def RdL.nil:RdL w (.slice none 0 0) sz enc []:=⟨none,0,rfl,by simp,by simp,by simp⟩
end
def cE{α:Type}(enc:α->List Value)(sz:Nat)(hs:∀x,(enc x).length=sz)(l:List α):∀i x j u,l[i]? =some x->(enc x)[j]? =some u->(l.flatMap enc)[i*sz+j]? =some u:=by
  induction l with
  | nil=>intro i x j u h;simp at h
  | cons a l I=>
    intro i x j u h H;have O:j<sz:=(by have:=(List.getElem?_eq_some_iff.1 H).1;rw[hs]at this;exact this);cases i with
    | zero=>simp at h;subst h;rw[List.flatMap_cons,List.getElem?_append_left (by rw[hs];omega)];simpa using H
    | succ i=>rw[List.flatMap_cons,List.getElem?_append_right (by rw[hs,Nat.succ_mul];omega),hs];have:(i+1)*sz+j-sz=i*sz+j:=(by rw[Nat.succ_mul];omega);rw[this];exact I i x j u (by simpa using h) H
def RdL.of_own{α:Type}{enc:α->List Value}{l:List α}(hs:∀x,(enc x).length=sz)(Y:n=l.length)(I:l.length<=140737488355328)(h:w.ownsRow base e sz v n (l.flatMap enc)):RdL w v sz enc l:=by
  subst Y;rcases h.2 with⟨rfl,V⟩|⟨g,cap,NK,rfl,hb,hg,O,Q8,KJ,ht⟩
  . have:l=[]:=List.eq_nil_of_length_eq_zero V;subst this;exact RdL.nil
  . refine⟨some ⟨g,0,none⟩,cap,rfl,O,I,λ_=>⟨g,0,rfl,(Array.getElem?_eq_some_iff.1 hg).1,?_⟩⟩;intro i x hx j u hu;have hc:=h.cells (g:=g) rfl (i*sz+j) u (cE enc sz hs l i x j u hx hu);have H:(⟨g,0,none⟩:Addr).add (i*sz+j)=⟨g,0+i*sz+j,none⟩:=(by unfold Addr.add;split<;>simp_all);rw[H]at hc;exact hc
def ai{α:Type}{l:List α}{k:Nat}(h:k<l.length):∃x,l[k]? =some x:=⟨l[k],List.getElem?_eq_getElem h⟩
def bJ{α:Type}{l:List α}{k:Nat}{x:α}(h:l[k]? =some x):l.take (k+1)=l.take k++[x]:=by rw[List.take_add_one,h];rfl
def bK(h:Calls P f args (w.drewN n) λe w'=>e= returned v/\w.drewN n=w'):Calls P f args (w.drewN n) λe H=>e= returned v/\∃m,H=w.drewN m:=
  h.mono λ_ _ ⟨I,hm⟩=>⟨I,n,hm.symm⟩
def CN(h:Calls P f args (w.drewN n) λe w'=>e= returned v/\Qt (w.drewN n) w'):Calls P f args (w.drewN n) λe H=>e= returned v/\∃m,H=w.drewN m:=
  h.mono λ_ _ ⟨I,m,hm⟩=>⟨I,n+m,by rw[hm,World.drewN_drewN]⟩
def encI(z:Int):List Value:=[J z]
def ta(z:Int):(encI z).length=1:=rfl
def Blk(w:World)(g:Nat)(t:TypeId)(cs:Array Value):Prop:=w.heap[g]? =some (.cells cs t (0,0))
section
variable{g:Nat}
def Blk.lt(h:Blk w g t cs):g<w.heap.size:=lt_of_block h
def Blk.cell(h:Blk w g t cs)(i:Nat):w.cell? ⟨g,i,none⟩=cs[i]?:=cell_of_row w g i cs t (0,0) h
def Blk.free(h:Blk w g t cs)(i:Nat):w.frozen? ⟨g,i,none⟩=false:=by unfold Blk at h;simp[World.frozen?,h]
def Blk.new(w:World)(t:TypeId)(cs:Array Value):Blk (w.alloc (.cells cs t)) w.heap.size t cs:=heap_alloc_new w _
def Blk.new'(w:World)(t:TypeId)(cs:Array Value){g:Nat}(hg:g=w.heap.size):Blk (w.alloc (.cells cs t)) g t cs:=by subst hg;exact heap_alloc_new w _
def Blk.drewN(h:Blk w g t cs)(n:Nat):Blk (w.drewN n) g t cs:=h
def Blk.drew(h:Blk w g t cs):Blk w.drew g t cs:=h
def Blk.alloc(h:Blk w g t cs)(o:Obj):Blk (w.alloc o) g t cs:=(Below.heap_alloc w o g h.lt).trans h
def Blk.set_(h:Blk w g t cs)(i:Nat)(u:Value):Blk (w.setCell ⟨g,i,none⟩ u) g t (cs.setIfInBounds i u):=by unfold Blk at h ⊢;simp[World.setCell,Array.getElem?_modify,h]
def Blk.far(h:Blk w g t cs)(H:g≠p.block)(u:Value):Blk (w.setCell p u) g t cs:=(Below.heap_setCell w p u g H).trans h
def Blk.below(h:Blk w g t cs)(hb:Below B w w')(hg:g<B):Blk w' g t cs:=(hb.block g hg).trans h
def Blk.grown{row:Option Nat}(h:Blk w g t cs)(hb:w.grownBy w' row)(hg:some g≠row):Blk w' g t cs:=(hb.block g h.lt hg).trans h
end
def vF(w:World)(row:Option Nat):w.grownBy w row:=⟨rfl,rfl,rfl,Nat.le_refl _,λ_ _ _=>rfl⟩
def yT{a:World}{g:Nat}(h:a.grownBy w (some g))(o:Nat)(u:Value):a.grownBy (w.setCell ⟨g,o,none⟩ u) (some g):=
 ⟨h.os,h.tape,h.output,by simpa[World.setCell]using h.size,λi hi H=>(Below.heap_setCell w ⟨g,o,none⟩ u i (by
  rintro rfl
  exact H rfl)).trans (h.block i hi H)⟩
def oQ{a:World}(h:Below a.heap.size a w)(row:Option Nat):a.grownBy w row:=⟨h.os,h.tape,h.output,h.size,λi hi _=>h.block i hi⟩
def vu{α:Type}{a b:List α}(H:a.length=b.length)(h:a.take a.length=b.take a.length):a=b:=by rw[List.take_length]at h;rw[h,H,List.take_length]
def az{a b:Bool}(h:a=b):Ending.returned (.bool a)= returned (.bool b):=by rw[h]
def aU{k:IntKind}{a b:Int}(h:a=b):Ending.returned (.int k a)= returned (.int k b):=by rw[h]
def bE(h:w.ownsRow base e sz v n xs):∃A c,v= .slice A n c:=by
 rcases h.2 with⟨rfl,rfl⟩|⟨g,cap,H,rfl,_⟩
 .exact⟨_,_,rfl⟩
 .exact⟨_,_,rfl⟩
def gQ(h:w.ownsRow base e sz v n xs)(I:0<n):∃g c,v= slice (some ⟨g,0,none⟩) n c/\base<=g/\g<w.heap.size:=by
  rcases h.2 with⟨rfl,rfl⟩|⟨g,cap,H,rfl,hb,hg,_⟩
  . omega
  . exact⟨_,_,rfl,hb,(Array.getElem?_eq_some_iff.1 hg).1⟩
end
section
open Go.RowKit Go.Maps
structure Ev where
 kind:Int
 thread:Int
 read:Bool
 count:Int
instance:DecidableEq Ev:=λa b=>decidable_of_iff (a.kind=b.kind/\a.thread=b.thread/\a.read=b.read/\a.count=b.count) (by cases a;cases b;simp)
def encE(e:Ev):List Value:=[J e.kind,J e.thread,.bool e.read,J e.count]
def jL(e:Ev):(encE e).length=4:=rfl
def oH(s:Ev):∀u∈encE s,u.oneCell'=true:=by intro u h;simp[encE]at h;rcases h with rfl|rfl|rfl|rfl<;>rfl
def pX{α:Type}(l:List α)(x:α)(i:Nat):(l++[x])[i]? =if i<l.length then l[i]? else if i=l.length then some x else none:=by
 split;.rw[List.getElem?_append_left ahB]
 .split;.subst i;simp
  .rw[List.getElem?_eq_none];simp;omega
end
section
open Go.RowKit Go.ChangeShapes Go.WideShapes Go.Deep
def ly{α:Type}(Q:Nat->α->Prop):∀n:Nat,(∀i,i<n->∃x,Q i x)->∃l:List α,l.length=n/\∀i x,l[i]? =some x->Q i x
 |0,_=>⟨[],rfl,by intro i x h;simp at h⟩
 |n+1,h=>by
  obtain⟨l,I,V⟩:=ly Q n (λi hi=>h i ahB);obtain⟨y,Y⟩:=h n ahB;refine⟨l++[y],by simp[I],λi x H=>?_⟩;rw[pX]at H;split at H;.exact V i x H
  .split at H;.rename_i _ O;injection H with H;subst H;rw[O,I];exact Y
   .cases H
section
variable{H:Type}{enc:TypeId×Value->H}
def fZ{b off:Nat}(j:Nat):(⟨b,off,none⟩:Addr).add j=⟨b,off+j,none⟩:=by unfold Addr.add;split<;>simp_all
def uh{x:DataW H×List MemPlace}(ht:P.underlying t=some (.slice e))(he:P.underlying e=some (.int .i64))(hc:P.cellsOf e=1)(h:DataW.trod enc P w base Pu Ph Nr t [v]=some x):∃A cap I,v= .slice A I.length cap/\I.length<=maxLen/\(I.length<=140737488355328->RdL w v 1 encI I)/\∀z∈I,(Lit.int .i64 z).wf=true:=by
  rcases open_ints ht he hc h with⟨O,_⟩|⟨a,len,cap,I,O,_,hl,hm,hz,_,Ny,ad⟩
  . simp at O;subst O;exact⟨none,0,[],rfl,by simp,λ_=>RdL.nil,by simp⟩
  . simp at O;subst O;have Xl:len<=I.length:=(by rw[hz];split<;>omega);refine⟨some a,cap,I.take len,by simp[Xl],by simp;omega,λhb=>?_,λz al=>ad z (List.mem_of_mem_take al)⟩;have V:(I.take len).length=len:=(by simp[Xl]);refine⟨some a,cap,by rw[V],by omega,hb,λhn=>?_⟩;rw[V]at hn;have Y:=Ny 0 ahB;obtain⟨b,off,spot⟩:=a;have hs:spot=none:=(by simpa[Addr.add]using World.cell?_spot Y);subst hs;refine⟨b,off,rfl,World.block_lt_of_cell? w _ (by rw[fZ]at Y;exact Y),λi y hy j u hu=>?_⟩;have hi:i<len:=(by have:=(List.getElem?_eq_some_iff.1 hy).1;rw[V]at this;exact this);have MH:=Ny i ahB;rw[fZ]at MH;have hj:j=0:=(by have:=(List.getElem?_eq_some_iff.1 hu).1;simp[encI]at this;exact this);subst hj;have O0:I.getD i 0=y:=(by rw[List.getElem?_take,if_pos hi]at hy;rw[List.getD_eq_getElem?_getD,hy];rfl);have ab:u= J y:=(by simpa[encI]using hu.symm);rw[Nat.mul_one,Nat.add_zero,MH,ab,O0]
def lK{I:Array Field}{cs:List Value}{x:DataW H×List MemPlace}(ht:P.underlying t=some (.slice e))(he:P.underlying e=some (.struct I))(Qa:oneCellFields P I=true)(hC:P.cellsOf e=I.size)(h:DataW.trod enc P w base Pu Ph Nr t cs=some x):cs=[.slice none 0 0]\/
    ∃(a:Addr) (len cap:Nat),cs=[.slice (some a) len cap]/\len<=cap/\cap<=maxLen/\
      ∀i,i<len->∀(j:Nat) (f:Field),I[j]? =some f->∃(v:Value) (n:Nat) (y:DataW H×List MemPlace),w.cell? (a.add (i*I.size+j))=some v/\DataW.trod enc P w base Pu Ph n f.type [v]=some y:=by
  rcases open_slice ht h with h0|⟨a,len,cap,m,n,D,Pl,KJ,hb,hl,hm,ZY,hx,hi⟩
  . exact .inl h0.1
  . refine .inr ⟨a,len,cap,KJ,hl,hm,λi ad j f Y=>?_⟩;have ZH:i<m:=(by rw[ZY];split<;>omega);obtain⟨O,hc,NY⟩:=hi i ZH;rw[hC]at hc;obtain⟨ys,n',Ur,hy,KW,Qn,hf⟩:=DataW.trod_struct he NY;obtain⟨_,Wg,Oj⟩:=World.cells?_some hc;obtain⟨V,hk⟩:=hone_of Qa j f Y;have NC:j<I.size:=(Array.getElem?_eq_some_iff.1 Y).1;have Ny:=Oj j NC;have h1:=hf j f Y;rw[V,hk]at h1;have Z7:(O.drop j).take 1=[O[j]' ahB]:=(by rw[List.drop_eq_getElem_cons ahB];rfl);rw[Z7]at h1;have ab:ys[j]? =some (ys[j]' ahB):=List.getElem?_eq_getElem ahB;refine⟨O[j]' ahB,n',ys[j]' ahB,?_,h1.trans ab⟩;rw[<-Go.Deep.add_add,Ny];exact List.getElem?_eq_getElem ahB
def zr{r:Reach}{k:IntKind}{x:DataW H×List MemPlace}(ht:P.underlying t=some (.array 4 e))(I:P.underlying e=some (.int k))(hc:P.cellsOf e=1)(hC:P.cellsOf t=4)(O:Value.okWide P w r b0 t v)(h:DataW.trod enc P w base Pu Ph Nr t v.cells.toList=some x):∃n0 n1 n2 n3:Int,v= agg #[.int k n0,.int k n1,.int k n2,.int k n3]/\(Lit.int k n0).wf=true/\(Lit.int k n1).wf=true/\(Lit.int k n2).wf=true/\(Lit.int k n3).wf=true:=by
  unfold Value.okWide at O;rw[ht]at O;obtain⟨cs,rfl,KR,_⟩:=O;rw[hC]at KR;obtain⟨xs,m,_,_,_,M2,hg⟩:=DataW.trod_array ht h;obtain⟨l⟩:=cs;match l,KR with
  | [c0,c1,c2,c3],_=>
    match xs,M2 with
    | [y0,y1,y2,y3],_=>have V:=hg 0 ahB;have Y:=hg 1 ahB;have g2:=hg 2 ahB;have g3:=hg 3 ahB;rw[hc]at V Y g2 g3;simp[Value.cells]at V Y g2 g3;obtain⟨a0,e0,_,w0⟩:=DataW.trod_int I V;obtain⟨a1,e1,_,w1⟩:=DataW.trod_int I Y;obtain⟨a2,e2,_,w2⟩:=DataW.trod_int I g2;obtain⟨a3,e3,_,w3⟩:=DataW.trod_int I g3;simp at e0 e1 e2 e3;subst e0 e1 e2 e3;exact⟨a0,a1,a2,a3,rfl,w0,w1,w2,w3⟩
end
end
section
open Go.RowKit Go.ChangeShapes Go.WideShapes Go.Deep
theorem Tryz.cellsTopo:prog.cellsOf 24=2:=by kernel_rfl
theorem Tryz.cellsInts:prog.cellsOf 22=1:=by kernel_rfl
theorem Tryz.cellsInt:prog.cellsOf 3=1:=by kernel_rfl
section
variable{H:Type}{enc:TypeId×Value->H}
def zt{r:Reach}{x:DataW H×List MemPlace}(O:Value.okWide prog w r b0 24 v)(h:DataW.trod enc prog w base Pu Ph Nr 24 v.cells.toList=some x):∃I cP P V Y T,v= agg #[.slice I (List.length (α:=Int) P) cP,.slice V (List.length (α:=Int) T) Y]/\P.length<=maxLen/\T.length<=maxLen/\(P.length<=140737488355328->RdL w (.slice I P.length cP) 1 encI P)/\(T.length<=140737488355328->RdL w (.slice V T.length Y) 1 encI T):=by
  obtain⟨cs,rfl,KR⟩:=okWide_struct Tryz.underlying24 O;rw[Tryz.cellsTopo]at KR;obtain⟨xs,m,_,_,_,M2,hf⟩:=DataW.trod_struct Tryz.underlying24 h;obtain⟨l⟩:=cs;match l,KR with
  | [c0,c1],_=>
    match xs,M2 with
    | [y0,y1],_=>have g0:=hf 0 _ rfl;have g1:=hf 1 _ rfl;simp[Value.cells,Tryz.cellsInts]at g0 g1;obtain⟨I,cP,P,e0,m0,R0,_⟩:=uh Tryz.underlying22 Tryz.underlying3 Tryz.cellsInt g0;obtain⟨V,Y,T,e1,m1,R1,_⟩:=uh Tryz.underlying22 Tryz.underlying3 Tryz.cellsInt g1;subst e0 e1;exact⟨I,cP,P,V,Y,T,rfl,m0,m1,R0,R1⟩
end
end
section
open Go.RowKit Go.ChangeShapes Go.WideShapes Go.Deep
def yP(x:Int×Int×Int):List Value:=[J x.1,J x.2.1,J x.2.2]
section
variable{H:Type}{enc:TypeId×Value->H}
def CI{ti:TypeId}{f0 f1 O:Field}{x:DataW H×List MemPlace}(ht:P.underlying t=some (.slice e))(he:P.underlying e=some (.struct #[f0,f1,O]))(Qa:oneCellFields P #[f0,f1,O]=true)(hC:P.cellsOf e=3)(h0:f0.type=ti)(h1:f1.type=ti)(h2:O.type=ti)(Y:P.underlying ti=some (.int .i64))(h:DataW.trod enc P w base Pu Ph Nr t [v]=some x):∃A cap l,v= .slice A l.length cap/\l.length<=maxLen/\(l.length<=140737488355328->RdL w v 3 yP l):=by
  rcases lK ht he Qa (by rw[hC];rfl) h with I|⟨a,len,cap,I,hl,hm,hf⟩
  . simp at I;subst I;exact⟨none,0,[],rfl,by simp,λ_=>RdL.nil⟩
  . simp at I;subst I;have YY:∀i,i<len->∃z:Int×Int×Int,w.cell? (a.add (i*3+0))=some (J z.1)/\w.cell? (a.add (i*3+1))=some (J z.2.1)/\w.cell? (a.add (i*3+2))=some (J z.2.2):=(by intro i hi;obtain⟨v0,n0,y0,c0,r0⟩:=hf i hi 0 f0 rfl;obtain⟨v1,n1,y1,c1,r1⟩:=hf i hi 1 f1 rfl;obtain⟨v2,n2,y2,c2,r2⟩:=hf i hi 2 O rfl;rw[h0]at r0;rw[h1]at r1;rw[h2]at r2;obtain⟨a0,e0,_,w0⟩:=DataW.trod_int Y r0;obtain⟨a1,e1,_,w1⟩:=DataW.trod_int Y r1;obtain⟨a2,e2,_,w2⟩:=DataW.trod_int Y r2;simp at e0 e1 e2;subst e0 e1 e2;exact⟨(a0,a1,a2),c0,c1,c2⟩);obtain⟨l,Lz,hq⟩:=ly _ len YY;refine⟨some a,cap,l,by rw[Lz],by omega,λhb=>?_⟩;refine⟨some a,cap,by rw[Lz],by omega,hb,λhn=>?_⟩;obtain⟨z0,Kr⟩:=ai (show 0<l.length from hn);have hc0:=(hq 0 z0 Kr).1;obtain⟨b,off,spot⟩:=a;have hs:spot=none:=(by simpa[Addr.add]using World.cell?_spot hc0);subst hs;refine⟨b,off,rfl,World.block_lt_of_cell? w _ (by rw[fZ]at hc0;exact hc0),λi y hy j u V=>?_⟩;have hc:=hq i y hy;simp only[fZ,<-Nat.add_assoc]at hc;have hj:j<3:=(by have:=(List.getElem?_eq_some_iff.1 V).1;simpa[yP]using this);obtain rfl|rfl|rfl:j=0\/j=1\/j=2:=by omega
    . rw[hc.1];simpa[yP]using V
    . rw[hc.2.1];simpa[yP]using V
    . rw[hc.2.2];simpa[yP]using V
end
end
section
open Go.RowKit
structure aa(S:List Nat)(w w':World):Prop where
 os:w'.os=w.os
 tape:w'.tape=w.tape
 output:w'.output=w.output
 size:w.heap.size<=w'.heap.size
 block:∀i,i<w.heap.size->i∉S->w'.heap[i]? =w.heap[i]?
section
variable{a b c:World}
def aa.refl(S:List Nat)(w:World):aa S w w:=⟨rfl,rfl,rfl,Nat.le_refl _,λ_ _ _=>rfl⟩
def aa.trans(h:aa S a b)(k:aa S b c):aa S a c:=
 ⟨k.os.trans h.os,k.tape.trans h.tape,k.output.trans h.output,Nat.le_trans h.size k.size,λi hi H=>(k.block i (Nat.lt_of_lt_of_le hi h.size) H).trans (h.block i hi H)⟩
def aa.mono(h:aa S a b)(hs:∀i∈S,i∈T):aa T a b:=⟨h.os,h.tape,h.output,h.size,λi hi H=>h.block i hi λk=>H (hs i k)⟩
def aa.fresh(h:aa S a b)(hs:∀i∈S,i∈T\/a.heap.size<=i):aa T a b:=
 ⟨h.os,h.tape,h.output,h.size,λi hi H=>h.block i hi λk=>(hs i k).elim H λh=>by omega⟩
def aa.alloc(h:aa S a w)(o:Obj):aa S a (w.alloc o):=
 ⟨h.os,h.tape,h.output,Nat.le_trans h.size ahC,λi hi H=>(Below.heap_alloc w o i (Nat.lt_of_lt_of_le hi h.size)).trans (h.block i hi H)⟩
def aa.setCell(h:aa S a w)(H:p.block∈S\/a.heap.size<=p.block)(u:Value):aa S a (w.setCell p u):=
 ⟨h.os,h.tape,h.output,by simpa[World.setCell]using h.size,λi hi I=>(Below.heap_setCell w p u i (by
  rintro rfl
  rcases H with H|H
  .exact I H
  .omega)).trans (h.block i hi I)⟩
def aa.drewN(h:aa S a w)(n:Nat):aa S a (w.drewN n):=⟨h.os,h.tape,h.output,h.size,h.block⟩
def aa.drew(h:aa S a w):aa S a w.drew:=⟨h.os,h.tape,h.output,h.size,h.block⟩
def aa.of_below(h:Below a.heap.size a b):aa S a b:=⟨h.os,h.tape,h.output,h.size,λi hi _=>h.block i hi⟩
def aa.of_qt(h:Qt a b):aa S a b:=aa.of_below (h.below _)
def aa.below(h:aa S a b)(H:∀i∈S,B<=i)(I:B<=a.heap.size):Below B a b:=
 ⟨h.os,h.tape,h.output,h.size,λi hi=>h.block i ahB λk=>by have:=H i k;omega⟩
def aa.blk{g:Nat}(h:aa S w w')(hb:Blk w g t cs)(hg:g∉S):Blk w' g t cs:=(h.block g hb.lt hg).trans hb
def aa.grown{g:Nat}(h:w.grownBy w' (some g)):aa [g] w w':=⟨h.os,h.tape,h.output,h.size,λi hi H=>h.block i hi (by intro e;injection e with e;exact H (by simp[e]))⟩
def aa.own(h:w.ownsRow base e sz v n xs)(k:aa S w w')(hn:∀g,v.ownBlock=some g->g∉S):w'.ownsRow base e sz v n xs:=by
 cases O:v.ownBlock with
 |none=>
  rcases h.2 with⟨rfl,V⟩|⟨g,cap,I,rfl,_⟩
  .exact⟨h.1,.inl ⟨rfl,V⟩⟩
  .simp[Value.ownBlock]at O
 |some g=>
  have hg:g∉S:=hn g O;have Y:=(h.lt g O).2;rcases h.2 with⟨rfl,V⟩|⟨H,cap,I,rfl,hb,hc,r⟩
  .simp[Value.ownBlock]at O
  .have e:H=g:=(by simpa[Value.ownBlock]using O);subst e;exact⟨h.1,.inr ⟨H,cap,I,rfl,hb,(k.block H Y hg).trans hc,r⟩⟩
end
def aa.cellC(t:aa S w w')(H:p.block<w.heap.size)(h:p.block∉S):w'.cell? p=w.cell? p:=by unfold World.cell?;rw[t.block _ H h]
end
section
open Go
variable{i:Int}
structure Ar where
 W:List Int
 room:Nat
 ops:Nat
 k:Int
 at_:Int
 wr:Bool
def inR(W:List Int)(x:Int):Bool:=decide (1<=x/\x<=W.length)
def ldW(W:List Int)(x:Int):Int:=if inR W x then W.getD (x.toNat-1) 0 else 0
def stW(W:List Int)(x v:Int):List Int:=if inR W x then W.set (x.toNat-1) v else W
def fH(s:Ar)(k x:Int)(wr:Bool):Ar:=if inR s.W x then {s with ops:=s.ops+1,k:=k,at_:=x,wr:=wr} else s
def wrA(s:Ar)(x v:Int):Ar:={s with W:=stW s.W x v}
def af(s:Ar)(x:Int):Ar:=fH s 1 x false
def ae(s:Ar)(x v:Int):Ar:=wrA (fH s 2 x true) x v
def cr(s:Ar)(x v:Int):Ar:=wrA (fH s 3 x true) x v
def cJ(s:Ar)(x old:Int):Bool:=inR s.W x&&decide (ldW s.W x=old)
def dX(s:Ar)(x old v:Int):Ar:=if cJ s x old then wrA (fH s 4 x true) x v else fH s 4 x false
def addA(s:Ar)(x d:Int):Ar:=wrA (fH s 5 x true) x (IntKind.i64.wrap (ldW s.W x+d))
def bM(W:List Int)(x v:Int):(stW W x v).length=W.length:=by unfold stW;split<;>simp
def aT{W:List Int}:inR W x=true↔1<=x/\x<=W.length:=by unfold inR;exact decide_eq_true_iff
def iV{W:List Int}:inR W x=false↔¬(1<=x/\x<=W.length):=by unfold inR;exact decide_eq_false_iff_not
structure Sp where
 pc:Int
 a:Int
 b:Int
 c:Int
def Sp.zero:Sp:=⟨0,0,0,0⟩
theorem GP{p q:Sp}(h1:p.pc=q.pc)(h:p.a=q.a)(H:p.b=q.b)(I:p.c=q.c):p=q:=by cases p;cases q;simp at *;exact⟨h1,h,H,I⟩
def okI(S:List Sp)(i:Int):Prop:=0<=i/\i<S.length
instance (S:List Sp)(i:Int):Decidable (okI S i):=by unfold okI;infer_instance
def getS(S:List Sp)(i:Int):Sp:=if 0<=i/\i<S.length then S.getD i.toNat Sp.zero else Sp.zero
def dL{S:List Sp}(h:okI S i):S[i.toNat]? =some (getS S i):=by
 unfold getS;rw[if_pos (show 0<=i/\i<S.length from h),List.getD_eq_getElem?_getD];have:i.toNat<S.length:=by have:=h.1;have:=h.2;omega
 rw[List.getElem?_eq_getElem this];rfl
def dE{S:List Sp}(h:¬okI S i):getS S i=Sp.zero:=by unfold getS;rw[if_neg (show ¬(0<=i/\i<S.length)from h)]
def sv(S:List Sp)(j:Nat):Sp:=S.getD j Sp.zero
def oM{α:Type}(l:List α)(i j:Nat)(a d:α):(l.set i a).getD j d=if i=j/\i<l.length then a else l.getD j d:=by
 rw[List.getD_eq_getElem?_getD,List.getD_eq_getElem?_getD,List.getElem?_set];by_cases h:i=j
 .subst h;by_cases H:i<l.length;.simp[H]
  .simp[H]
 .simp[h]
theorem be(S:List Sp)(i j:Nat)(p:Sp):sv (S.set i p) j=if i=j/\i<S.length then p else sv S j:=oM _ _ _ _ _
def dN(s:Ar)(k x:Int)(wr:Bool):(fH s k x wr).W=s.W:=by unfold fH;split<;>rfl
def i5(s:Ar)(k x:Int)(wr:Bool)(h:inR s.W x=false):fH s k x wr=s:=by unfold fH;rw[h];rfl
def sh(s:Ar)(x v:Int)(h:inR s.W x=false):wrA s x v=s:=by unfold wrA stW;rw[h];rfl
def js{W:List Int}(h:inR W x=true):ldW W x=W.getD (x.toNat-1) 0:=by unfold ldW;rw[if_pos h]
def lw{W:List Int}(h:inR W x=false):ldW W x=0:=by unfold ldW;rw[h];rfl
def ye(s:Ar)(x v:Int):(wrA s x v).W=stW s.W x v:=rfl
def aQ(s:Ar)(x:Int):(af s x).W=s.W:=dN _ _ _ _
def ay(s:Ar)(x v:Int):(ae s x v).W=stW s.W x v:=by unfold ae;rw[ye,dN]
def dP(s:Ar)(x v:Int):(cr s x v).W=stW s.W x v:=by unfold cr;rw[ye,dN]
def gW(s:Ar)(x o v:Int):(dX s x o v).W=if cJ s x o then stW s.W x v else s.W:=by unfold dX;split<;>rename_i h<;>simp only[ye,dN]
def d9(s:Ar)(x d:Int):(addA s x d).W=stW s.W x (IntKind.i64.wrap (ldW s.W x+d)):=by unfold addA;rw[ye,dN]
def fT(s:Ar)(k x:Int)(wr:Bool):(fH s k x wr).ops<=s.ops+1:=by unfold fH;split<;>simp
def iW(s:Ar)(x:Int):(af s x).ops<=s.ops+1:=fT _ _ _ _
def ij(s:Ar)(x v:Int):(ae s x v).ops<=s.ops+1:=fT _ _ _ _
def fg(s:Ar)(x v:Int):(cr s x v).ops<=s.ops+1:=fT _ _ _ _
def jF(s:Ar)(x d:Int):(addA s x d).ops<=s.ops+1:=fT _ _ _ _
def nX(s:Ar)(x o v:Int):(dX s x o v).ops<=s.ops+1:=by unfold dX;split<;>exact fT _ _ _ _
def gC{W:List Int}(h:inR W x=true)(v y:Int):ldW (stW W x v) y=if y=x then v else ldW W y:=by
 obtain⟨h1,O⟩:=aT.1 h;unfold ldW stW;rw[if_pos h];have e:inR (W.set (x.toNat-1) v) y=inR W y:=by unfold inR;rw[List.length_set]
 rw[e];by_cases H:inR W y=true
 .rw[if_pos H,if_pos H,List.getD_eq_getElem?_getD,List.getElem?_set];obtain⟨V,Y⟩:=aT.1 H;by_cases I:y=x;.subst I;rw[if_pos rfl,if_pos rfl,if_pos ahB];rfl
  .rw[if_neg I,if_neg ahB,List.getD_eq_getElem?_getD]
 .rw[if_neg H,if_neg H];rw[if_neg];rintro rfl;exact H h
end
section
open Go.RowKit
variable{q:Nat}{S:List Sp}{p:Sp}
def bi(p:Sp):List Value:=[J p.pc,J p.a,J p.b,J p.c]
def iO(p:Sp):(bi p).length=4:=rfl
def dD(w:World)(q:Nat)(S:List Sp):Prop:=Blk w q 113 (S.flatMap bi).toArray
def dD.cell(h:dD w q S)(H:S[i]? =some p)(j:Nat)(u:Value)(I:(bi p)[j]? =some u):Z w q (i*4+j) u:=by rw[Blk.cell h];simpa using cE bi 4 iO S i p j u H I
def nA{α:Type}(enc:α->List Value)(sz:Nat)(hs:∀x,(enc x).length=sz)(l:List α):∀k x x' j u,l[k]? =some x->j<sz->(enc x).set j u=enc x'->(l.flatMap enc).set (k*sz+j) u=(l.set k x').flatMap enc:=by
  induction l with
  | nil=>intro k x x' j u h;simp at h
  | cons a l O=>
    intro k x x' j u h I H;cases k with
    | zero=>simp at h;subst h;rw[List.set_cons_zero,List.flatMap_cons,List.flatMap_cons,List.set_append_left _ _ (by rw[hs];omega)];simp[H]
    | succ k=>rw[List.set_cons_succ,List.flatMap_cons,List.flatMap_cons,List.set_append_right _ _ (by rw[hs,Nat.succ_mul];omega),hs];have:(k+1)*sz+j-sz=k*sz+j:=(by rw[Nat.succ_mul];omega);rw[this,O k x x' j u (by simpa using h) I H]
def dD.put(h:dD w q S){p':Sp}(O:S[i]? =some p){j:Nat}{u:Value}(I:j<4)(H:(bi p).set j u=bi p'):dD (w.setCell ⟨q,i*4+j,none⟩ u) q (S.set i p'):=by have h1:=Blk.set_ h (i*4+j) u;unfold dD;rw[List.setIfInBounds_toArray,nA bi 4 iO S i p p' j u O I H]at h1;exact h1
def dD.lt(h:dD w q S):q<w.heap.size:=Blk.lt h
def dD.free(h:dD w q S)(i:Nat):w.frozen? ⟨q,i,none⟩=false:=Blk.free h i
def dD.turns(h:dD w q S)(k:aa T w w')(H:q∉T):dD w' q S:=k.blk h H
def aF(p:Sp):Value:= agg #[J p.pc,J p.a,J p.b,J p.c]
def aP(a b c d:Int)(w:World):(Instr.field 113 (agg #[J a,J b,J c,J d]) 0).run prog w= .ok (J a) w:=by kernel_rfl
end
section
open Go Go.RowKit
def lkP(lb:Nat):Value:= ↑lb
section
variable{lb:Nat}
def uL(hc:Z w lb 1 (J n)):E 53 #[lkP lb] w λe w'=>e= returned (J n)/\w=w':=by unfold lkP;go_enter func53,ntmps53;exact aaa
def vG(hc:Z w lb 1 (J n))(i:Int)(r:Bool)(I:decide (0<=i/\i<n)=r):E 58 #[lkP lb,J i] w λe w'=>e= returned (.bool r)/\w=w':=by
 have V:=qh (uL hc);obtain⟨v,O⟩:=LE (lkP lb);rw[<-O]at V ⊢;have H:=qh I;clear hc O I;by_cases Y:i<0;.have t0:decide (0<=i)=false:=decide_eq_false ahB;have h:Kq (r=false):=qh (by rw[<-H.o];exact decide_eq_false ahB);clear Y;go_enter func58,ntmps58;go_wp2;go_ret;exact⟨az h.o.symm,rfl⟩
 .have t0:decide (0<=i)=true:=decide_eq_true ahB;have h:Kq (r=decide (i<(n:Int))):=qh (by rw[<-H.o];by_cases e:i<(n:Int)<;>simp[e];omega);clear Y;go_enter func58,ntmps58;go_wp2_with fail;refine LT V.o ?_;go_wp2;go_ret;exact⟨az h.o.symm,rfl⟩
end
end
section
open Go.RowKit
def gH(g:Nat)(s:Ar):Array Value:=#[slice (some ⟨g,0,none⟩) s.room s.room,J s.W.length,J s.ops,J s.k,J s.at_,.bool s.wr]
def wdL(s:Ar):List Value:=(s.W++List.replicate (s.room-s.W.length) 0).map (Value.int .i64)
structure aB(w:World)(a g:Nat)(s:Ar):Prop where
 blk:Blk w a 106 (gH g s)
 wds:Blk w g 216 (wdL s).toArray
 ne:a≠g
 le:s.W.length<=s.room
 room:s.room<=4096
 ops:s.ops<=1000000000000
def aB.turns{a g:Nat}{s:Ar}(h:aB w a g s)(k:aa S w w')(H:a∉S)(hg:g∉S):aB w' a g s:=
 ⟨k.blk h.blk H,k.blk h.wds hg,h.ne,h.le,h.room,h.ops⟩
def aB.word{a g:Nat}{s:Ar}(h:aB w a g s)(hi:i<s.W.length):Z w g i (J (s.W.getD i 0))/\w.frozen? ⟨g,i,none⟩=false:=by refine⟨?_,h.wds.free i⟩;rw[h.wds.cell i];simp[wdL,List.getElem?_append,hi]
def E1(s:Ar)(hi:i<s.W.length)(v:Int):(wdL s).toArray.setIfInBounds i (J v)=(wdL {s with W:=s.W.set i v}).toArray:=by unfold wdL;simp only[List.setIfInBounds_toArray,List.length_set];congr 1;rw[<-List.map_set,List.set_append_left _ _ hi]
section
variable{a g:Nat}{s:Ar}
def aB.c0(h:aB w a g s):w.cell? a=some (slice (some ⟨g,0,none⟩) s.room s.room):=h.blk.cell 0
def aB.c1(h:aB w a g s):Z w a 1 (J s.W.length):=h.blk.cell 1
def aB.c2(h:aB w a g s):Z w a 2 (J s.ops):=h.blk.cell 2
def aB.c3(h:aB w a g s):Z w a 3 (J s.k):=h.blk.cell 3
def aB.c4(h:aB w a g s):Z w a 4 (J s.at_):=h.blk.cell 4
def aB.c5(h:aB w a g s):Z w a 5 (.bool s.wr):=h.blk.cell 5
end
def nC{a g:Nat}{s:Ar}(h:aB w a g s):E 112 #[↑a] w λe w'=>e= returned (J s.W.length)/\w=w':=by have c1:=h.c1;clear h;go_enter func112,ntmps112;go_wp2;go_ret;exact⟨rfl,rfl⟩
def kG{a g:Nat}{s:Ar}(h:aB w a g s)(x:Int)(V:inR s.W x=true):E 186 #[↑a,J x] w λe w'=>e= returned (pointer (some ⟨g,x.toNat-1,none⟩))/\w=w':=by
  have c0:=h.c0;have H:=qh h;have hl:=h.le;have I:=h.room;obtain⟨h1,h2⟩:=aT.1 V;obtain⟨n,rfl⟩:∃n:Nat,x=((n+1:Nat):Int):=⟨x.toNat-1,by omega⟩;have O:((n+1:Nat):Int).toNat-1=n:=by omega
  rw[O];have t1:¬((n+1:Nat):Int)<1:=by omega
  have t2:¬(s.W.length:Int)<((n+1:Nat):Int):=by omega
  have Y:(n:Int)<s.room:=by omega
  clear h V h1 h2 O;go_enter func186,ntmps186;go_wp2_with (go_at_call 112;refine(nC H.o).mono ?_;rintro e w' ⟨rfl,rfl⟩);go_ret;exact⟨by simp,rfl⟩
def ks{a g:Nat}{s:Ar}(h:aB w a g s)(x:Int)(I:inR s.W x=false):E 186 #[↑a,J x] w λe w'=>e= returned (.pointer none)/\w=w':=by
  have H:=qh h;have O:=iV.1 I;clear h I;by_cases h1:x<1;. go_enter func186,ntmps186;go_wp2_with (go_at_call 112;refine(nC H.o).mono ?_;rintro e w' ⟨rfl,rfl⟩);go_ret;exact⟨rfl,rfl⟩
  . have t2:(s.W.length:Int)<x:=(by omega);clear O;go_enter func186,ntmps186;go_wp2_with (go_at_call 112;refine(nC H.o).mono ?_;rintro e w' ⟨rfl,rfl⟩);go_ret;exact⟨rfl,rfl⟩
def i6{a g:Nat}{s:Ar}(h:aB w a g s)(k x:Int)(wr:Bool)(I:inR s.W x=true)(V:s.ops+1<=1000000000000):E 187 #[↑a,J k,J x,.bool wr] w λe w'=>e= returned (tuple #[])/\aB w' a g (fH s k x wr)/\aa [a] w w':=by
  have c2:=h.c2;have c3:=h.c3;have c4:=h.c4;have c5:=h.c5;have O:=h.blk.free 2;have Y:=h.blk.free 3;have f4:=h.blk.free 4;have f5:=h.blk.free 5;have hl:=h.blk.lt;have H:=qh h;have HX:=qh I;clear h I;go_enter func187,ntmps187;go_wp2;go_end0;refine⟨rfl,?_,?_⟩;. have hb:=(((H.o.blk.set_ 2 (J (s.ops+1))).set_ 3 (J k)).set_ 4 (J x)).set_ 5 (.bool wr);have hw:=(((H.o.wds.far (p:=⟨a,2,none⟩) H.o.ne.symm (J (s.ops+1))).far (p:=⟨a,3,none⟩) H.o.ne.symm (J k)).far (p:=⟨a,4,none⟩) H.o.ne.symm (J x)).far (p:=⟨a,5,none⟩) H.o.ne.symm (.bool wr);have e:fH s k x wr={s with ops:=s.ops+1,k:=k,at_:=x,wr:=wr}:=(by unfold fH;rw[if_pos HX.o]);rw[e];exact⟨hb,hw,H.o.ne,H.o.le,H.o.room,V⟩
  . exact((((aa.refl _ _).setCell (.inl ahC) _).setCell (.inl ahC) _).setCell (.inl ahC) _).setCell (.inl ahC) _
end
section
open Go Go.RowKit
structure LkM(n:Nat) where
 σ:Type
 β:Type
 ok:σ->Nat->Prop
 ar:σ->Ar
 sp:σ->Nat->Sp
 cn:σ->Nat->Int
 rd:Bool
 step:σ->Nat->σ
 ask:σ->Nat->Bool->σ
 leave:σ->Nat->σ
 bt:β->Nat
 hi:β->Nat
 fp:β->List Nat
 is:β->World->Nat->Nat->Nat->σ->Prop
abbrev MS(n:Nat):Type 1:=(M:LkM n)×M.σ
def rdB(rd:Bool)(p:Sp):Bool:=rd&&decide (p.a=1)
def LkM.Act(M:LkM n)(b:M.β)(w:World)(a g lb:Nat)(st':M.σ)(r:Bool)(e:Ending)(w':World):Prop:=
 e= returned (.bool r)/\M.is b w' a g lb st'/\aa (M.fp b) w w'
def lkB:Nat:=1000000
def di(p p':Sp):Bool:=decide ((p'.pc=10\/p'.pc=0)/\p.pc≠0/\p.pc≠10)
structure LkM.Good{n:Nat}(M:LkM n):Prop where
 n32:1<=n/\n<=32
 okS:∀st N i,M.ok st N->N<lkB->i<n->M.ok (M.step st i) (N+1)
 okA:∀st N i r,M.ok st N->N<lkB->i<n->M.ok (M.ask st i r) (N+1)
 okL:∀st N i,M.ok st N->N<lkB->i<n->M.ok (M.leave st i) (N+1)
 okm:∀st N,M.ok st N->M.ok st (N+1)
 one:∀st N i j,M.ok st N->i<n->j<n->(M.sp st i).pc=10->(M.sp st j).pc=10->rdB M.rd (M.sp st i)=false->i=j
 pcs:∀st N i,M.ok st N->i<n->0<=(M.sp st i).pc
 cnt:∀st N i,M.ok st N->i<n->((M.sp st i).pc=10↔0<M.cn st i)
 opsS:∀st N i,M.ok st N->N<lkB->i<n->(M.ar (M.step st i)).ops<=(M.ar st).ops+1
 arA:∀st i r,M.ar (M.ask st i r)=M.ar st
 arL:∀st i,M.ar (M.leave st i)=M.ar st
 ais:∀b w a g lb st,M.is b w a g lb st->aB w a g (M.ar st)
 lk:∀b w a g lb st,M.is b w a g lb st->w.cell? ⟨lb,1,none⟩=some (int i64 n)
 kd:∀b w a g lb st,M.is b w a g lb st->∃k:Int,w.cell? ⟨lb,0,none⟩=some (int i64 k)/\M.rd=decide (11<=k/\k<=13)
 fpa:∀b w a g lb st,M.is b w a g lb st->(∀x∈M.fp b,x<M.hi b)/\M.hi b<=w.heap.size
 far:∀b w a g lb st w' S,M.is b w a g lb st->aa S w w'->(∀x∈S,M.hi b<=x\/x<M.bt b)->M.is b w' a g lb st
 cS:∀b w a g lb st N i,M.is b w a g lb st->M.ok st N->N<lkB->i<n->
  Calls prog 51 #[lkP lb,int i64 i] w (M.Act b w a g lb (M.step st i) (di (M.sp st i) (M.sp (M.step st i) i)))
 cA:∀b w a g lb st N i r,M.is b w a g lb st->M.ok st N->N<lkB->i<n->
  Calls prog 50 #[lkP lb,int i64 i,.bool r] w (M.Act b w a g lb (M.ask st i r) (decide ((M.sp st i).pc=0/\(r=true->M.rd=true))))
 cL:∀b w a g lb st N i,M.is b w a g lb st->M.ok st N->N<lkB->i<n->
  Calls prog 52 #[lkP lb,int i64 i] w (M.Act b w a g lb (M.leave st i) (decide ((M.sp st i).pc=10)))
 cP:∀b w a g lb st i,M.is b w a g lb st->i<n->
  Calls prog 57 #[lkP lb,int i64 i] w λe w'=>e= returned (aF (M.sp st i))/\Below w.heap.size w w'
 cC:∀b w a g lb st i,M.is b w a g lb st->i<n->
  Calls prog 18 #[lkP lb,int i64 i] w λe w'=>e= returned (int i64 (M.cn st i))/\Below w.heap.size w w'
end
section
open Go Go.RowKit
variable{i:Int}{p:Sp}
section
variable{M:LkM n}{a g lb:Nat}{b:M.β}{st st':M.σ}
def iG(pc:Int):Int:=if pc=0 then 0 else if pc<10 then 1 else if pc=10 then 2 else 3
def C2(h:E 57 #[lkP lb,J i] w λe w'=>e= returned (aF p)/\Below w.heap.size w w'):E 16 #[lkP lb,J i] w λe w'=>e= returned (J (iG p.pc))/\Below w.heap.size w w':=by
  have O:=aP;have H:=qh h;clear h;obtain⟨pc,u,v,z⟩:=p;unfold aF at H;obtain⟨q,I⟩:=LE (lkP lb);rw[<-I]at H ⊢;have HX:Kq (iG pc=if (pc==0)=true then 0 else if decide (pc<10)=true then 1 else if (pc==10)=true then 2 else 3):=qh (by unfold iG;simp);clear I;simp only;cases t0:(pc==0)
  . cases t1:decide (pc<10)
    . cases t2:(pc==10);. rw[show iG pc=3 from by rw[HX.o,t0,t1,t2];rfl];go_enter func16,ntmps16;go_wp2_with fail;refine Op H.o λw1 B1=>?_;go_wp2;go_ret;exact⟨rfl,B1.o⟩
      . rw[show iG pc=2 from by rw[HX.o,t0,t1,t2];rfl];go_enter func16,ntmps16;go_wp2_with fail;refine Op H.o λw1 B1=>?_;go_wp2;go_ret;exact⟨rfl,B1.o⟩
    . rw[show iG pc=1 from by rw[HX.o,t0,t1];rfl];go_enter func16,ntmps16;go_wp2_with fail;refine Op H.o λw1 B1=>?_;go_wp2;go_ret;exact⟨rfl,B1.o⟩
  . rw[show iG pc=0 from by rw[HX.o,t0];rfl];go_enter func16,ntmps16;go_wp2_with fail;refine Op H.o λw1 B1=>?_;go_wp2;go_ret;exact⟨rfl,B1.o⟩
def GT(G:M.Good)(h:M.is b w a g lb st)(i:Nat)(hi:i<n):E 16 #[lkP lb,J i] w λe w'=>e= returned (J (iG (M.sp st i).pc))/\Below w.heap.size w w':=C2 (G.cP b w a g lb st i h hi)
def rR(k:Int)(w:World)(r:Bool)(I:r=decide (11<=k/\k<=13)):E 55 #[J k] w λe w'=>e= returned (.bool r)/\w=w':=by
 have h:=qh I;clear I;by_cases h1:11<=k;.go_enter func55,ntmps55;go_wp2;go_ret;exact⟨az (by rw[h.o];by_cases e:k<=13<;>simp[e];omega),rfl⟩
 .have t1:decide (k >= 11)=false:=decide_eq_false ahB;go_enter func55,ntmps55;go_wp2;go_ret;exact⟨az (by rw[h.o];symm;exact decide_eq_false ahB),rfl⟩
def wH(rd:Bool)(p:Sp):Bool:=!decide (p.pc=0)&&rdB rd p
def BE(a b c d:Int)(w:World):(Instr.field 113 (agg #[J a,J b,J c,J d]) 1).run prog w= .ok (J b) w:=by kernel_rfl
theorem GK{rd:Bool}{k:Int}(O:w.cell? lb=some (J k))(La:rd=decide (11<=k/\k<=13))(h:∀W,Below w.heap.size w W->E 57 #[lkP lb,J i] W λe w'=>e= returned (aF p)/\Below W.heap.size W w'):E 17 #[lkP lb,J i] w λe w'=>e= returned (bool (wH rd p))/\Below w.heap.size w w':=by
  have LI:=BE;have Lz:=aI O;have H:=qh (C2 (h w (Below.refl _ _)));have HP:=qh h;have V:Kq (∀W,Below w.heap.size w W->W.cell? lb=some (J k)):=qh λW t=>by rw[(aa.of_below (S:=[]) t).cellC Lz ahC];exact O
  have Y:=qh (λW=>rR k W rd La);clear h O La Lz;obtain⟨pc,u,v,z⟩:=p;unfold aF at HP;unfold wH rdB;unfold lkP at *;simp only at H ⊢;by_cases I:pc=0;. subst I;go_enter func17,ntmps17;go_wp2_with fail;refine Op H.o λw1 B1=>?_;rw[show iG 0=0 from rfl];go_wp2;go_ret;exact⟨rfl,B1.o⟩
  . have e0:iG pc≠0:=(by unfold iG;rw[if_neg I];split;decide;split<;>decide);obtain⟨s,hs⟩:=LE (iG pc);rw[<-hs]at H e0;have t0:(s !=0)=true:=(by simpa using e0);have HZ:=qh (show decide (pc=0)=false from decide_eq_false I);clear hs e0 I;cases rd;. go_enter func17,ntmps17;go_wp2_with fail;refine Op H.o λw1 b1=>?_;have c0:=V.o _ b1.o;have B1:=qh b1.o;go_wp2_with fail;refine LT (Y.o _) ?_;go_wp2;go_ret;exact⟨az ahC,B1.o⟩
    . go_enter func17,ntmps17;go_wp2_with fail;refine Op H.o λw1 b1=>?_;have c0:=V.o _ b1.o;have B1:=qh b1.o;go_wp2_with fail;refine LT (Y.o _) ?_;go_wp2_with fail;refine Op (HP.o _ B1.o) λw3 b3=>?_;have B3:=qh (B1.o.trans (b3.o.mono B1.o.size));clear c0;go_wp2;go_ret;exact⟨az (by rw[HZ.o];by_cases e:u=1<;>simp[e]),B3.o⟩
def GJ(G:M.Good)(h:M.is b w a g lb st)(i:Nat)(hi:i<n):E 17 #[lkP lb,J i] w λe w'=>e= returned (bool (wH M.rd (M.sp st i)))/\Below w.heap.size w w':=by obtain⟨k,I,H⟩:=G.kd b w a g lb st h;exact GK I H λW t=>G.cP b W a g lb st i (G.far b w a g lb st W [] h (aa.of_below t) ahC) hi
end
end
section
open Go Go.RowKit
def evV(e:Ev):Value:= agg #[J e.kind,J e.thread,.bool e.read,J e.count]
def Blk.set4{g:Nat}{a b c d H b' I d':Value}(h:Blk w g t #[a,b,c,d]):Blk ((((w.setCell ⟨g,0,none⟩ H).setCell ⟨g,1,none⟩ b').setCell ⟨g,2,none⟩ I).setCell ⟨g,3,none⟩ d') g t #[H,b',I,d']:=
 (((h.set_ 0 H).set_ 1 b').set_ 2 I).set_ 3 d'
def aa.set4{w0:World}(h:aa S w0 w)(H:w0.heap.size<=Ze)(p q r s:Value):aa S w0 ((((w.setCell ⟨Ze,0,none⟩ p).setCell ⟨Ze,1,none⟩ q).setCell ⟨Ze,2,none⟩ r).setCell ⟨Ze,3,none⟩ s):=
 (((h.setCell (.inr H) p).setCell (.inr H) q).setCell (.inr H) r).setCell (.inr H) s
section
variable{M:LkM n}
def LkM.stt(M:LkM n)(st:M.σ)(i:Nat):Int:=iG (M.sp st i).pc
def LkM.rds(M:LkM n)(st:M.σ)(i:Nat):Bool:=wH M.rd (M.sp st i)
def LkM.stepE(M:LkM n)(st:M.σ)(i:Nat):Ev×M.σ:=
 if M.stt st i=1 then(if di (M.sp st i) (M.sp (M.step st i) i)then⟨2,i,M.rds st i,M.cn (M.step st i) i⟩else⟨0,i,M.rds st i,0⟩,M.step st i)
 else if M.stt st i=3 then(⟨if di (M.sp st i) (M.sp (M.step st i) i)then 4 else 0,i,M.rds st i,0⟩,M.step st i)
 else(⟨0,i,M.rds st i,0⟩,st)
def LkM.askE(M:LkM n)(st:M.σ)(i:Nat)(r:Bool):Ev×M.σ:=
 if (r&&!M.rd)=true then(⟨5,i,M.rds st i,0⟩,st)else(if decide ((M.sp st i).pc=0/\(r=true->M.rd=true))then⟨1,i,r,0⟩else⟨5,i,M.rds st i,0⟩,M.ask st i r)
def LkM.leaveE(M:LkM n)(st:M.σ)(i:Nat)(r:Bool):Ev×M.σ:=
 if (M.rds st i !=r)=true then(⟨5,i,M.rds st i,0⟩,st)else(if decide ((M.sp st i).pc=10)then⟨3,i,r,0⟩else⟨5,i,M.rds st i,0⟩,M.leave st i)
def LkM.pick(M:LkM n)(st:M.σ)(p:Int×Int):Ev×M.σ:=
 if 0<=p.1/\p.1<n then
  (if p.2=0 then M.stepE st p.1.toNat else if p.2=1\/p.2=3 then M.askE st p.1.toNat (decide (p.2=3))else if p.2=2\/p.2=4 then M.leaveE st p.1.toNat (decide (p.2=4))
  else(⟨5,p.1,M.rds st p.1.toNat,0⟩,st))
 else(⟨0,0,false,0⟩,st)
def LkM.Good.pick(G:M.Good){st:M.σ}(h:M.ok st N)(hN:N<lkB)(p:Int×Int):M.ok (M.pick st p).2 (N+1)/\(M.ar (M.pick st p).2).ops<=(M.ar st).ops+1/\((M.pick st p).1.kind=5\/¬(0<=p.1/\p.1<n)->M.ar (M.pick st p).2=M.ar st):=by
 have hm:=G.okm _ _ h;have nil:M.ok st (N+1)/\(M.ar st).ops<=(M.ar st).ops+1:=⟨hm,by omega⟩;unfold LkM.pick;by_cases hi:0<=p.1/\p.1<n
 .rw[if_pos hi];have H:p.1.toNat<n:=by omega
  have hS:=And.intro (G.okS _ _ _ h hN H) (G.opsS _ _ _ h hN H);have I:=λr=>And.intro (G.okA _ _ _ r h hN H) (G.arA st p.1.toNat r);have O:=And.intro (G.okL _ _ _ h hN H) (G.arL st p.1.toNat);split
  .unfold LkM.stepE;split;.exact aab
   .split;.exact aab
    .exact aac
  .split
   .unfold LkM.askE;split;.exact aac
    .exact⟨(I _).1,by rw[(I _).2];omega,λ_=>(I _).2⟩
   .split
    .unfold LkM.leaveE;split;.exact aac
     .exact⟨O.1,by rw[O.2];omega,λ_=>O.2⟩
    .exact aac
 .rw[if_neg hi];exact aac
end
structure WoB{n:Nat}(M:LkM n) where
 b:M.β
 a:Nat
 g:Nat
 wb:Nat
 lb:Nat
 tb:Nat
 hi:Nat
structure cQ{n:Nat}{M:LkM n}(X:WoB M)(w:World)(st:M.σ):Prop where
 is:M.is X.b w X.a X.g X.lb st
 wd:Blk w X.wb 121 #[↑X.a,↑X.tb,lkP X.lb,.bool M.rd]
 nf:X.wb∉M.fp X.b
 hw:M.hi X.b<=X.hi/\X.wb<X.hi/\X.hi<=w.heap.size
section
variable{M:LkM n}{X:WoB M}{st st':M.σ}
def cQ.far(G:M.Good)(h:cQ X w st)(t:aa S w w')(H:∀x∈S,X.hi<=x):cQ X w' st:=
 ⟨G.far _ _ _ _ _ _ _ _ h.is t (λx I=> .inl (Nat.le_trans h.hw.1 (H x I))),t.blk h.wd (λm=>by have:=H _ m;have:=h.hw;omega),h.nf,⟨h.hw.1,h.hw.2.1,Nat.le_trans h.hw.2.2 t.size⟩⟩
def cQ.below(G:M.Good)(h:cQ X w st)(b:Below w.heap.size w w'):cQ X w' st:=h.far G (aa.of_below (S:=[]) b) ahC
def cQ.act(h:cQ X w st)(t:aa (M.fp X.b) w w')(k:M.is X.b w' X.a X.g X.lb st'):cQ X w' st':=
 ⟨k,t.blk h.wd h.nf,h.nf,⟨h.hw.1,h.hw.2.1,Nat.le_trans h.hw.2.2 t.size⟩⟩
def cQ.lo(G:M.Good)(h:cQ X w st):∀r∈M.fp X.b,r<X.hi:=λr I=>Nat.lt_of_lt_of_le ((G.fpa _ _ _ _ _ _ h.is).1 r I) h.hw.1
def cQ.set(G:M.Good)(h:cQ X w st)(I:X.hi<=Ze)(i:Nat)(u:Value):cQ X (w.setCell ⟨Ze,i,none⟩ u) st:=
 h.far G (S:=[Ze]) ((aa.refl _ _).setCell (.inl ahC) u) (λj H=>by simp at H;omega)
def cQ.set4(G:M.Good)(h:cQ X w st)(H:X.hi<=Ze)(p q r s:Value):cQ X ((((w.setCell ⟨Ze,0,none⟩ p).setCell ⟨Ze,1,none⟩ q).setCell ⟨Ze,2,none⟩ r).setCell ⟨Ze,3,none⟩ s) st:=
 (((h.set G H 0 p).set G H 1 q).set G H 2 r).set G H 3 s
def xe(X:WoB M)(w:World)(st':M.σ)(v:Value)(e:Ending)(w':World):Prop:=
 e= returned v/\cQ X w' st'/\aa (M.fp X.b) w w'
theorem mJ(G:M.Good)(h:cQ X w st)(i:Nat)(hi:i<n):E 28 #[lkP X.wb,J i] w λe w'=>e= returned (tuple #[J (M.stt st i),bool (M.rds st i)])/\Below w.heap.size w w':=by
  have H:Kq (∀W,Below w.heap.size w W->Z W X.wb 2 ↑X.lb):=qh λW b=>(h.below G b).wd.cell 2;have c2:=H.o _ (Below.refl _ _);have V:=qh (λW (b:Below w.heap.size w W)=>GT G (h.below G b).is i hi);have O:=qh (λW (b:Below w.heap.size w W)=>GJ G (h.below G b).is i hi);unfold LkM.stt LkM.rds;obtain⟨z,Y⟩:=LE (iG (M.sp st i).pc);obtain⟨r,I⟩:=LE (wH M.rd (M.sp st i));rw[<-Y]at V ⊢;rw[<-I]at O ⊢;unfold lkP at *;clear h Y I;have K:=qh (show Below w.heap.size w w.drew from(Below.refl _ _).drew);go_enter func28,ntmps28;go_wp2_with fail
  go_region_held3 (λW=>Z W X.wb 2 ↑X.lb)
    (first|with_reducible exact H.o _ K.o)
    (first
      | (go_at_call 16;go_loud (refine Op (V.o _ K.o) λw2 b2=>?_);have K:=qh (K.o.trans (b2.o.mono K.o.size)))
      | (go_at_call 17;go_loud (refine Op (O.o _ K.o) λw3 b3=>?_);have K:=qh (K.o.trans (b3.o.mono K.o.size))))
  all_goals go_wp2;go_ret2;exact⟨rfl,K.o⟩
theorem uM(G:M.Good)(h:cQ X w st):E 61 #[lkP X.wb] w λe w'=>e= returned (J n)/\w=w':=by have c2:=h.wd.cell 2;have HT:=qh (uL (G.lk _ _ _ _ _ _ h.is));unfold lkP at *;clear h;go_enter func61,ntmps61;exact aad
end
end
section
open Go Go.RowKit
section
variable{M:LkM n}{X:WoB M}{st st':M.σ}
theorem Jg(G:M.Good)(h:cQ X w st)(hk:M.ok st N)(hN:N<lkB)(i:Nat)(hi:i<n):E 65 #[lkP X.wb,J i] w (xe X w (M.stepE st i).2 (evV (M.stepE st i).1)):=by
  refine aiX ?_;intro KR b0 h0 HS Nt H0 HL;have HM:=qh (show X.hi<=w.heap.size from h.hw.2.2);have LH:=qh (h.lo G);have HG:=qh G;have O:=qh (λW (k:cQ X W st)=>G.cS _ _ _ _ _ _ _ i k.is hk hN hi);have Mk:=qh (λW (k:cQ X W (M.step st i))=>G.cC _ _ _ _ _ _ i k.is hi);unfold LkM.stepE;obtain⟨z,hz⟩:=LE (M.stt st i);obtain⟨rd,La⟩:=LE (M.rds st i);obtain⟨r,I⟩:=LE (di (M.sp st i) (M.sp (M.step st i) i));obtain⟨c,hc⟩:=LE (M.cn (M.step st i) i);obtain⟨s2,Kp⟩:=LE (M.step st i);rw[<-hz,<-La]at HS ⊢;rw[<-I]at O ⊢;rw[<-hc]at Mk ⊢;rw[<-Kp]at O Mk ⊢;clear h h0 Nt b0 hz La I hc Kp G hk;unfold lkP at *;by_cases h1:z=1
  . subst h1;rw[if_pos rfl];cases r;. rw[if_neg ahD];go_enter func65,ntmps65;go_wp2_with fail;refine aj2 ?_;intro w1 b1 Kl;rw[KR]at Kl;refine aiS ?_;intro H1 H2 c2;go_wp2_with fail;refine(O.o _ H2.o.1).mono ?_;rintro en w3 ⟨rfl,k3,Y⟩;refine ai5 ?_;intro Li H3;clear k3 Y;refine aiT ?_;intro z0 z1 z2 z3 y0 y1 y2 y3;have x0:=H3.o.2.2.1.cell 0;have x1:=H3.o.2.2.1.cell 1;have x2:=H3.o.2.2.1.cell 2;have x3:=H3.o.2.2.1.cell 3;go_wp2;exact bodyPost_ret (results_cell_row ahF _ _ w.heap.size 55 _ (0,0) _ ahF ahM Tryz.underlying55 rfl ahE) rfl ⟨rfl,H3.o.1.set4 HG.o HM.o _ _ _ _,H3.o.2.2.2.set4 (Nat.le_refl _) _ _ _ _⟩
    . rw[if_pos rfl];go_enter func65,ntmps65;go_wp2_with fail;refine aj2 ?_;intro w1 b1 Kl;rw[KR]at Kl;refine aiS ?_;intro H1 H2 c2;go_wp2_with fail;refine(O.o _ H2.o.1).mono ?_;rintro en w3 ⟨rfl,k3,Y⟩;refine ai5 ?_;intro Li H3;clear k3 Y;have c3:=HL.o _ _ H3.o.1;go_wp2_with fail;refine Op (Mk.o _ H3.o.1) λw4 V=>?_;have MB:=V.o.size;have H:=qh (And.intro (H3.o.1.below HG.o V.o) (And.intro (H3.o.2.1.below V.o (H3.o.2.1).lt) (And.intro (H3.o.2.2.1.below V.o (H3.o.2.2.1).lt) (H3.o.2.2.2.trans (aa.of_below V.o)))));have R9:w.heap.size≠w1.heap.size:=(by omega);have VY:X.hi<=w1.heap.size:=by have:=HM.o;omega
      have H5:=qh (show(cQ X ((w4.setCell ⟨w1.heap.size,0,none⟩ (J 2)).setCell ⟨w1.heap.size,3,none⟩ (J c)) s2)/\Blk ((w4.setCell ⟨w1.heap.size,0,none⟩ (J 2)).setCell ⟨w1.heap.size,3,none⟩ (J c)) w.heap.size 55 #[J 0,J 0,bool false,J 0]/\Blk ((w4.setCell ⟨w1.heap.size,0,none⟩ (J 2)).setCell ⟨w1.heap.size,3,none⟩ (J c)) w1.heap.size 55 #[J 2,J i,.bool rd,J c]/\aa (M.fp X.b) w ((w4.setCell ⟨w1.heap.size,0,none⟩ (J 2)).setCell ⟨w1.heap.size,3,none⟩ (J c))from
        ⟨(H.o.1.set HG.o VY 0 _).set HG.o VY 3 _,(H.o.2.1.far R9 _).far R9 _,(H.o.2.2.1.set_ 0 _).set_ 3 _,(H.o.2.2.2.setCell (.inr aiq) _).setCell (.inr aiq) _⟩)
      have q0:=H.o.2.2.1.free 0;have q3:=H.o.2.2.1.free 3;have ab:=H.o.2.2.1.cell 0;have ad:=H.o.2.2.1.cell 3;refine ajT ?_;intro z0 z1 z2 z3 y0 y1 y2 y3 x0 x1 x2 x3;go_wp2;exact bodyPost_ret (results_cell_row ahF _ _ w.heap.size 55 _ (0,0) _ ahF (by exact H5.o.2.1.set4) Tryz.underlying55 rfl ahE) rfl ⟨rfl,H5.o.1.set4 HG.o HM.o _ _ _ _,H5.o.2.2.2.set4 (Nat.le_refl _) _ _ _ _⟩
  have u1:(z==1)=false:=by simpa using h1
  rw[if_neg h1];clear h1;by_cases h3:z=3
  . subst h3;clear u1;rw[if_pos rfl];cases r;. rw[if_neg ahD];go_enter func65,ntmps65;go_wp2_with fail;refine aj2 ?_;intro w1 b1 Kl;rw[KR]at Kl;refine aiS ?_;intro H1 H2 c2;go_wp2_with fail;refine(O.o _ H2.o.1).mono ?_;rintro en w3 ⟨rfl,k3,Y⟩;refine ai5 ?_;intro Li H3;clear k3 Y;refine aiT ?_;intro z0 z1 z2 z3 y0 y1 y2 y3;have x0:=H3.o.2.2.1.cell 0;have x1:=H3.o.2.2.1.cell 1;have x2:=H3.o.2.2.1.cell 2;have x3:=H3.o.2.2.1.cell 3;go_wp2;exact bodyPost_ret (results_cell_row ahF _ _ w.heap.size 55 _ (0,0) _ ahF ahM Tryz.underlying55 rfl ahE) rfl ⟨rfl,H3.o.1.set4 HG.o HM.o _ _ _ _,H3.o.2.2.2.set4 (Nat.le_refl _) _ _ _ _⟩
    . rw[if_pos rfl];go_enter func65,ntmps65;go_wp2_with fail;refine aj2 ?_;intro w1 b1 Kl;rw[KR]at Kl;refine aiS ?_;intro H1 H2 c2;go_wp2_with fail;refine(O.o _ H2.o.1).mono ?_;rintro en w3 ⟨rfl,k3,Y⟩;refine ai5 ?_;intro Li H3;clear k3 Y;have R9:w.heap.size≠w1.heap.size:=by omega
      have H5:=qh (show(cQ X (w3.setCell ⟨w1.heap.size,0,none⟩ (J 4)) s2)/\Blk (w3.setCell ⟨w1.heap.size,0,none⟩ (J 4)) w.heap.size 55 #[J 0,J 0,bool false,J 0]/\Blk (w3.setCell ⟨w1.heap.size,0,none⟩ (J 4)) w1.heap.size 55 #[J 4,J i,.bool rd,J 0]/\aa (M.fp X.b) w (w3.setCell ⟨w1.heap.size,0,none⟩ (J 4))from
        ⟨H3.o.1.set HG.o ahT 0 _,H3.o.2.1.far R9 _,H3.o.2.2.1.set_ 0 _,H3.o.2.2.2.setCell (.inr aiq) _⟩)
      have q0:=H3.o.2.2.1.free 0;have ab:=H3.o.2.2.1.cell 0;refine ajT ?_;intro z0 z1 z2 z3 y0 y1 y2 y3 x0 x1 x2 x3;go_wp2;exact bodyPost_ret (results_cell_row ahF _ _ w.heap.size 55 _ (0,0) _ ahF (by exact H5.o.2.1.set4) Tryz.underlying55 rfl ahE) rfl ⟨rfl,H5.o.1.set4 HG.o HM.o _ _ _ _,H5.o.2.2.2.set4 (Nat.le_refl _) _ _ _ _⟩
  have u3:(z==3)=false:=by simpa using h3
  rw[if_neg h3];clear h3;go_enter func65,ntmps65;go_wp2_with fail;refine aj2 ?_;intro w1 b1 Kl;rw[KR]at Kl;refine aiS ?_;intro H1 H2 c2;have z0:=H2.o.2.1.free 0;have z1:=H2.o.2.1.free 1;have z2:=H2.o.2.1.free 2;have z3:=H2.o.2.1.free 3;have y0:=H2.o.2.1.cell 0;have y1:=H2.o.2.1.cell 1;have y2:=H2.o.2.1.cell 2;have y3:=H2.o.2.1.cell 3;have x0:=H2.o.2.2.1.cell 0;have x1:=H2.o.2.2.1.cell 1;have x2:=H2.o.2.2.1.cell 2;have x3:=H2.o.2.2.1.cell 3;go_wp2;exact bodyPost_ret (results_cell_row ahF _ _ w.heap.size 55 _ (0,0) _ ahF (by exact H2.o.2.1.set4) Tryz.underlying55 rfl ahE) rfl ⟨rfl,H2.o.1.set4 HG.o HM.o _ _ _ _,H2.o.2.2.2.set4 (Nat.le_refl _) _ _ _ _⟩
end
end
section
open Go Go.RowKit
section
variable{M:LkM n}{X:WoB M}{st st':M.σ}
theorem Hh(G:M.Good)(h:cQ X w st)(Y:M.ok st N)(hN:N<lkB)(i:Nat)(hi:i<n)(r:Bool):E 66 #[lkP X.wb,J i,.bool r] w (xe X w (M.askE st i r).2 (evV (M.askE st i r).1)):=by
  refine aiX ?_;intro KR b0 h0 HS Nt H0 HL;refine akl ?_;intro N9 HM LH HG;have HA:=qh (λW (k:cQ X W st)=>G.cA _ _ _ _ _ _ _ i r k.is Y hN hi);unfold LkM.askE;obtain⟨z,hz⟩:=LE (M.stt st i);obtain⟨rs,O⟩:=LE (M.rds st i);rw[<-hz,<-O]at HS;rw[<-O];clear h h0 Nt b0 hz O G Y;obtain⟨q,V⟩:=LE (decide ((M.sp st i).pc=0/\(r=true->M.rd=true)));obtain⟨rd,I⟩:=LE M.rd;obtain⟨s2,H⟩:=LE (M.ask st i r);rw[<-V,<-H]at HA;rw[<-V,<-H,<-I];rw[<-I]at N9;clear V I H;unfold lkP at *;cases r
  . rw[if_neg ahC];cases q;. rw[if_neg ahD];go_enter func66,ntmps66;go_wp2_with fail;refine aj2 ?_;intro w1 b1 Kl;rw[KR]at Kl;refine aiZ ?_;intro H1 c2 c3;go_wp2_with fail;refine ai1 ?_;intro w3 k3 H3;refine aiT ?_;intro z0 z1 z2 z3 y0 y1 y2 y3;go_wp2;exact bodyPost_ret (results_cell_row ahF _ _ w.heap.size 55 _ (0,0) _ ahF ahM Tryz.underlying55 rfl ahE) rfl ⟨rfl,H3.o.1.set4 HG.o HM.o _ _ _ _,H3.o.2.2.set4 (Nat.le_refl _) _ _ _ _⟩
    . rw[if_pos rfl];go_enter func66,ntmps66;go_wp2_with fail;refine aj2 ?_;intro w1 b1 Kl;rw[KR]at Kl;refine aiZ ?_;intro H1 c2 c3;go_wp2_with fail;refine ai1 ?_;intro w3 k3 H3;refine aiT ?_;intro z0 z1 z2 z3 y0 y1 y2 y3;go_wp2;exact bodyPost_ret (results_cell_row ahF _ _ w.heap.size 55 _ (0,0) _ ahF ahM Tryz.underlying55 rfl ahE) rfl ⟨rfl,H3.o.1.set4 HG.o HM.o _ _ _ _,H3.o.2.2.set4 (Nat.le_refl _) _ _ _ _⟩
  . cases rd;. rw[if_pos ahF];go_enter func66,ntmps66;go_wp2_with fail;refine aj2 ?_;intro w1 b1 Kl;rw[KR]at Kl;refine aiZ ?_;intro H1 c2 c3;have z0:=H1.o.2.1.free 0;have z1:=H1.o.2.1.free 1;have z2:=H1.o.2.1.free 2;have z3:=H1.o.2.1.free 3;have y0:=H1.o.2.1.cell 0;have y1:=H1.o.2.1.cell 1;have y2:=H1.o.2.1.cell 2;have y3:=H1.o.2.1.cell 3;go_wp2;exact bodyPost_ret (results_cell_row ahF _ _ w.heap.size 55 _ (0,0) _ ahF (by exact H1.o.2.1.set4) Tryz.underlying55 rfl ahE) rfl ⟨rfl,H1.o.1.set4 HG.o HM.o _ _ _ _,H1.o.2.2.set4 (Nat.le_refl _) _ _ _ _⟩
    . rw[if_neg ahC];cases q;. rw[if_neg ahD];go_enter func66,ntmps66;go_wp2_with fail;refine aj2 ?_;intro w1 b1 Kl;rw[KR]at Kl;refine aiZ ?_;intro H1 c2 c3;go_wp2_with fail;refine ai1 ?_;intro w3 k3 H3;refine aiT ?_;intro z0 z1 z2 z3 y0 y1 y2 y3;go_wp2;exact bodyPost_ret (results_cell_row ahF _ _ w.heap.size 55 _ (0,0) _ ahF ahM Tryz.underlying55 rfl ahE) rfl ⟨rfl,H3.o.1.set4 HG.o HM.o _ _ _ _,H3.o.2.2.set4 (Nat.le_refl _) _ _ _ _⟩
      . rw[if_pos rfl];go_enter func66,ntmps66;go_wp2_with fail;refine aj2 ?_;intro w1 b1 Kl;rw[KR]at Kl;refine aiZ ?_;intro H1 c2 c3;go_wp2_with fail;refine ai1 ?_;intro w3 k3 H3;refine aiT ?_;intro z0 z1 z2 z3 y0 y1 y2 y3;go_wp2;exact bodyPost_ret (results_cell_row ahF _ _ w.heap.size 55 _ (0,0) _ ahF ahM Tryz.underlying55 rfl ahE) rfl ⟨rfl,H3.o.1.set4 HG.o HM.o _ _ _ _,H3.o.2.2.set4 (Nat.le_refl _) _ _ _ _⟩
theorem Ee(G:M.Good)(h:cQ X w st)(V:M.ok st N)(hN:N<lkB)(i:Nat)(hi:i<n)(r:Bool):E 67 #[lkP X.wb,J i,.bool r] w (xe X w (M.leaveE st i r).2 (evV (M.leaveE st i r).1)):=by
  refine aiX ?_;intro KR b0 h0 HS Nt H0 HL;refine akl ?_;intro N9 HM LH HG;have HA:=qh (λW (k:cQ X W st)=>G.cL _ _ _ _ _ _ _ i k.is V hN hi);unfold LkM.leaveE;obtain⟨z,Y⟩:=LE (M.stt st i);obtain⟨rs,I⟩:=LE (M.rds st i);rw[<-Y,<-I]at HS;rw[<-I];clear h h0 Nt b0 Y I G V;obtain⟨q,O⟩:=LE (decide ((M.sp st i).pc=10));obtain⟨s2,H⟩:=LE (M.leave st i);rw[<-O,<-H]at HA;rw[<-O,<-H];clear O H;unfold lkP at *;by_cases hd:rs=r
  . subst hd;rw[if_neg ahC];cases q;. rw[if_neg ahD];go_enter func67,ntmps67;go_wp2_with fail;refine aj2 ?_;intro w1 b1 Kl;rw[KR]at Kl;refine aiZ ?_;intro H1 c2 c3;go_wp2_with fail;refine ai1 ?_;intro w3 k3 H3;refine aiT ?_;intro z0 z1 z2 z3 y0 y1 y2 y3;go_wp2;exact bodyPost_ret (results_cell_row ahF _ _ w.heap.size 55 _ (0,0) _ ahF ahM Tryz.underlying55 rfl ahE) rfl ⟨rfl,H3.o.1.set4 HG.o HM.o _ _ _ _,H3.o.2.2.set4 (Nat.le_refl _) _ _ _ _⟩
    . rw[if_pos rfl];go_enter func67,ntmps67;go_wp2_with fail;refine aj2 ?_;intro w1 b1 Kl;rw[KR]at Kl;refine aiZ ?_;intro H1 c2 c3;go_wp2_with fail;refine ai1 ?_;intro w3 k3 H3;refine aiT ?_;intro z0 z1 z2 z3 y0 y1 y2 y3;go_wp2;exact bodyPost_ret (results_cell_row ahF _ _ w.heap.size 55 _ (0,0) _ ahF ahM Tryz.underlying55 rfl ahE) rfl ⟨rfl,H3.o.1.set4 HG.o HM.o _ _ _ _,H3.o.2.2.set4 (Nat.le_refl _) _ _ _ _⟩
  . obtain rfl:rs=!r:=by cases rs<;>cases r<;>simp_all
    rw[if_pos ahC];clear hd;go_enter func67,ntmps67;go_wp2_with fail;refine aj2 ?_;intro w1 b1 Kl;rw[KR]at Kl;refine aiZ ?_;intro H1 c2 c3;have z0:=H1.o.2.1.free 0;have z1:=H1.o.2.1.free 1;have z2:=H1.o.2.1.free 2;have z3:=H1.o.2.1.free 3;have y0:=H1.o.2.1.cell 0;have y1:=H1.o.2.1.cell 1;have y2:=H1.o.2.1.cell 2;have y3:=H1.o.2.1.cell 3;go_wp2;exact bodyPost_ret (results_cell_row ahF _ _ w.heap.size 55 _ (0,0) _ ahF (by exact H1.o.2.1.set4) Tryz.underlying55 rfl ahE) rfl ⟨rfl,H1.o.1.set4 HG.o HM.o _ _ _ _,H1.o.2.2.set4 (Nat.le_refl _) _ _ _ _⟩
end
end
section
open Go Go.RowKit
section
variable{M:LkM n}{X:WoB M}{st st':M.σ}
theorem doW(G:M.Good)(h:cQ X w st)(hk:M.ok st N)(hN:N<lkB)(p:Int×Int):E 25 #[lkP X.wb,agg #[J p.1,J p.2]] w (xe X w (M.pick st p).2 (evV (M.pick st p).1)):=by
  obtain⟨t,k⟩:=p;have bA:=((Below.refl w.heap.size w).alloc (Nat.le_refl _) (cells #[J t,J k] 58)).alloc ahC (cells #[J 0,J 0,bool false,J 0] 55);have h0:=h.below G bA;have QT:=(Blk.new w 58 #[J t,J k]).alloc (cells #[J 0,J 0,bool false,J 0] 55);have Nt:=Blk.new' (w.alloc (cells #[J t,J k] 58)) 55 #[J 0,J 0,bool false,J 0] (g:=w.heap.size+1) ahC;have QZ:aa (M.fp X.b) w ((w.alloc (cells #[J t,J k] 58)).alloc (cells #[J 0,J 0,bool false,J 0] 55)):=((aa.refl _ _).alloc _).alloc _;have LH:=qh (h.lo G);have HM:=qh (show X.hi<=w.heap.size from h.hw.2.2);obtain⟨w0,E'⟩:=LE (((w.alloc (cells #[J t,J k] 58)).alloc (cells #[J 0,J 0,bool false,J 0] 55)));rw[<-E']at h0 QT Nt QZ;have Xc:w0.heap.size=w.heap.size+2:=by rw[E'];simp
  have hD:∀m,cQ X (w0.drewN m) st:=λm=>h0.below G (Qt.below (⟨m,rfl⟩:Qt w0 (w0.drewN m)) w0.heap.size);have HT:=qh (λm=>uM G (hD m));have LN:=qh (λm i hi=>mJ G (hD m) i hi);have H':=qh (λm i hi=>Jg G (hD m) hk hN i hi);have Y:=qh (λm i hi r=>Hh G (hD m) hk hN i hi r);have V:=qh (λm i hi r=>Ee G (hD m) hk hN i hi r);have O:=qh (λm=>And.intro (hD m) (And.intro (QT.drewN m) (And.intro (Nt.drewN m) (QZ.drewN m))));have c0:w0.cell? w.heap.size=some (J t):=QT.cell 0;have c1:Z w0 w.heap.size 1 (J k):=QT.cell 1;have Lh:=qh E';have HG:=qh G;unfold LkM.pick evV;clear h h0 QT Nt QZ hD E' G hk bA;simp only;by_cases hi:0<=t/\t<n
  . obtain⟨i,rfl⟩:=Int.eq_ofNat_of_zero_le hi.1;have I:i<n:=(by omega);rw[if_pos hi];simp only[Int.toNat_natCast];unfold lkP at *;have t1:decide ((i:Int)<0)=false:=decide_eq_false ahB;have t2:decide ((i:Int) >= (n:Int))=false:=decide_eq_false ahB;clear hi;by_cases k0:k=0;. subst k0;rw[if_pos rfl];replace H':=qh (λm=>H'.o m i I);obtain⟨x,H⟩:=LE (M.stepE st i);rw[<-H]at H' ⊢;clear H;obtain⟨⟨x1,x2,x3,x4⟩,s2⟩:=x;unfold evV at H';go_enter func25,ntmps25;go_wp2_with fail;rw[<-Lh.o];go_quiet ((go_at_call 61;exact bK (HT.o _)));go_wp2_with fail;refine Op (H'.o _) λw3 k3=>?_;have hB:=O.o nq;refine aje ?_;intro H3;clear hB;refine aiT ?_;intro z0 z1 z2 z3 y0 y1 y2 y3;go_wp2;exact bodyPost_ret (results_cell_row ahF _ _ (w.heap.size+1) 55 _ (0,0) _ ahF ahM Tryz.underlying55 rfl ahE) rfl ⟨rfl,H3.o.1.set4 HG.o ahT _ _ _ _,H3.o.2.2.set4 ahB _ _ _ _⟩
    by_cases k1:k=1;. subst k1;rw[if_neg ahD,if_pos ahD,show decide ((1:Int)=3)=false from rfl];replace Y:=qh (λm=>Y.o m i I false);obtain⟨x,H⟩:=LE (M.askE st i false);rw[<-H]at Y ⊢;clear H;obtain⟨⟨x1,x2,x3,x4⟩,s2⟩:=x;unfold evV at Y;go_enter func25,ntmps25;go_wp2_with fail;rw[<-Lh.o];go_quiet ((go_at_call 61;exact bK (HT.o _)));go_wp2_with fail;refine Op (Y.o _) λw3 k3=>?_;have hB:=O.o nq;refine aje ?_;intro H3;clear hB;refine aiT ?_;intro z0 z1 z2 z3 y0 y1 y2 y3;go_wp2;exact bodyPost_ret (results_cell_row ahF _ _ (w.heap.size+1) 55 _ (0,0) _ ahF ahM Tryz.underlying55 rfl ahE) rfl ⟨rfl,H3.o.1.set4 HG.o ahT _ _ _ _,H3.o.2.2.set4 ahB _ _ _ _⟩
    by_cases k3:k=3;. subst k3;rw[if_neg ahD,if_pos ahD,show decide ((3:Int)=3)=true from rfl];replace Y:=qh (λm=>Y.o m i I true);obtain⟨x,H⟩:=LE (M.askE st i true);rw[<-H]at Y ⊢;clear H;obtain⟨⟨x1,x2,x3,x4⟩,s2⟩:=x;unfold evV at Y;go_enter func25,ntmps25;go_wp2_with fail;rw[<-Lh.o];go_quiet ((go_at_call 61;exact bK (HT.o _)));go_wp2_with fail;refine Op (Y.o _) λw3 k3=>?_;have hB:=O.o nq;refine aje ?_;intro H3;clear hB;refine aiT ?_;intro z0 z1 z2 z3 y0 y1 y2 y3;go_wp2;exact bodyPost_ret (results_cell_row ahF _ _ (w.heap.size+1) 55 _ (0,0) _ ahF ahM Tryz.underlying55 rfl ahE) rfl ⟨rfl,H3.o.1.set4 HG.o ahT _ _ _ _,H3.o.2.2.set4 ahB _ _ _ _⟩
    by_cases k2:k=2;. subst k2;rw[if_neg ahD,if_neg ahD,if_pos ahD,show decide ((2:Int)=4)=false from rfl];replace V:=qh (λm=>V.o m i I false);obtain⟨x,H⟩:=LE (M.leaveE st i false);rw[<-H]at V ⊢;clear H;obtain⟨⟨x1,x2,x3,x4⟩,s2⟩:=x;unfold evV at V;go_enter func25,ntmps25;go_wp2_with fail;rw[<-Lh.o];go_quiet ((go_at_call 61;exact bK (HT.o _)));go_wp2_with fail;refine Op (V.o _) λw3 k3=>?_;have hB:=O.o nq;refine aje ?_;intro H3;clear hB;refine aiT ?_;intro z0 z1 z2 z3 y0 y1 y2 y3;go_wp2;exact bodyPost_ret (results_cell_row ahF _ _ (w.heap.size+1) 55 _ (0,0) _ ahF ahM Tryz.underlying55 rfl ahE) rfl ⟨rfl,H3.o.1.set4 HG.o ahT _ _ _ _,H3.o.2.2.set4 ahB _ _ _ _⟩
    by_cases k4:k=4;. subst k4;rw[if_neg ahD,if_neg ahD,if_pos ahD,show decide ((4:Int)=4)=true from rfl];replace V:=qh (λm=>V.o m i I true);obtain⟨x,H⟩:=LE (M.leaveE st i true);rw[<-H]at V ⊢;clear H;obtain⟨⟨x1,x2,x3,x4⟩,s2⟩:=x;unfold evV at V;go_enter func25,ntmps25;go_wp2_with fail;rw[<-Lh.o];go_quiet ((go_at_call 61;exact bK (HT.o _)));go_wp2_with fail;refine Op (V.o _) λw3 k3=>?_;have hB:=O.o nq;refine aje ?_;intro H3;clear hB;refine aiT ?_;intro z0 z1 z2 z3 y0 y1 y2 y3;go_wp2;exact bodyPost_ret (results_cell_row ahF _ _ (w.heap.size+1) 55 _ (0,0) _ ahF ahM Tryz.underlying55 rfl ahE) rfl ⟨rfl,H3.o.1.set4 HG.o ahT _ _ _ _,H3.o.2.2.set4 ahB _ _ _ _⟩
    have u0:(k==0)=false:=(by simpa using k0);have u1:(k==1)=false:=(by simpa using k1);have u2:(k==2)=false:=(by simpa using k2);have u3:(k==3)=false:=(by simpa using k3);have u4:(k==4)=false:=(by simpa using k4);rw[if_neg k0,if_neg ahB,if_neg ahB];clear k0 k1 k2 k3 k4;replace LN:=qh (λm=>LN.o m i I);obtain⟨z,hz⟩:=LE (M.stt st i);obtain⟨rs,NV⟩:=LE (M.rds st i);rw[<-hz,<-NV]at LN;rw[<-NV];clear hz NV;go_enter func25,ntmps25;go_wp2_with fail;rw[<-Lh.o];go_quiet ((go_at_call 61;exact bK (HT.o _)));go_wp2_with fail;refine Op (LN.o _) λw3 b3=>?_;have hB:=O.o nq;have H3:=qh (And.intro (hB.1.below HG.o b3.o) (And.intro (hB.2.2.1.below b3.o hB.2.2.1.lt) (And.intro (hB.2.2.2.trans (aa.of_below b3.o)) (hB.2.1.below b3.o hB.2.1.lt))));have c0:w3.cell? w.heap.size=some (J i):=H3.o.2.2.2.cell 0;clear hB;replace H3:=qh (And.intro H3.o.1 (And.intro H3.o.2.1 H3.o.2.2.1));refine aiT ?_;intro z0 z1 z2 z3 y0 y1 y2 y3;go_wp2;exact bodyPost_ret (results_cell_row ahF _ _ (w.heap.size+1) 55 _ (0,0) _ ahF ahM Tryz.underlying55 rfl ahE) rfl ⟨rfl,H3.o.1.set4 HG.o ahT _ _ _ _,H3.o.2.2.set4 ahB _ _ _ _⟩
  . rw[if_neg hi];unfold lkP at *;by_cases h0:t<0;. have t1:decide (t<0)=true:=decide_eq_true h0;clear hi h0;go_enter func25,ntmps25;go_wp2_with fail;rw[<-Lh.o];go_quiet (fail);have H3:=qh (show cQ X (w0.drewN nq) st/\Blk (w0.drewN nq) (w.heap.size+1) 55 #[J 0,J 0,bool false,J 0]/\aa (M.fp X.b) w (w0.drewN nq)from⟨(O.o nq).1,(O.o nq).2.2.1,(O.o nq).2.2.2⟩);refine aiT ?_;intro z0 z1 z2 z3 y0 y1 y2 y3;go_wp2;exact bodyPost_ret (results_cell_row ahF _ _ (w.heap.size+1) 55 _ (0,0) _ ahF ahM Tryz.underlying55 rfl ahE) rfl ⟨rfl,H3.o.1.set4 HG.o ahT _ _ _ _,H3.o.2.2.set4 ahB _ _ _ _⟩
    . have t1:decide (t<0)=false:=decide_eq_false h0;have t2:decide (t >= (n:Int))=true:=decide_eq_true ahB;clear hi h0;go_enter func25,ntmps25;go_wp2_with fail;rw[<-Lh.o];go_quiet ((go_at_call 61;exact bK (HT.o _)));have H3:=qh (show cQ X (w0.drewN nq) st/\Blk (w0.drewN nq) (w.heap.size+1) 55 #[J 0,J 0,bool false,J 0]/\aa (M.fp X.b) w (w0.drewN nq)from⟨(O.o nq).1,(O.o nq).2.2.1,(O.o nq).2.2.2⟩);refine aiT ?_;intro z0 z1 z2 z3 y0 y1 y2 y3;go_wp2;exact bodyPost_ret (results_cell_row ahF _ _ (w.heap.size+1) 55 _ (0,0) _ ahF ahM Tryz.underlying55 rfl ahE) rfl ⟨rfl,H3.o.1.set4 HG.o ahT _ _ _ _,H3.o.2.2.set4 ahB _ _ _ _⟩
end
end
section
open Go.RowKit
variable{P:List Int}{k:Nat}{p:Int}{α:Type}
def okP(P:List Int)(v:Nat):Bool:=decide ((v=0->P.getD v 0= -1)/\(0<v->0<=P.getD v 0/\P.getD v 0<v))
def dW(P:List Int):Bool:=(List.range P.length).all (okP P)
def dm(P:List Int)(v:Int):Bool:=decide (0<=v/\v<P.length/\v∉P)
def am(P:List Int)(k:Nat):List Int:=((List.range k).map Int.ofNat).filter (dm P)
def ac(P:List Int):List Int:=am P P.length
def dep(P:List Int):Nat->Int->Nat
 |0,_=>0
 |f+1,v=>if 0<=v/\v<P.length then dep P f (P.getD v.toNat 0)+1 else 0
def depL(P:List Int)(v:Int):Nat:=dep P P.length v
def kJ(P:List Int):Bool:=(ac P).all λv=>decide (depL P v=depL P ((ac P).headD 0)/\depL P v<=5)
def thrB(P T:List Int):Bool:=T.all (dm P)
def iX(P T:List Int):Bool:=decide (P.length<1\/32<P.length\/T.length<1\/32<T.length)
def a5(P T:List Int):Int:=if iX P T then 8 else if dW P=false then 9 else if kJ P=false then 9 else if thrB P T=false then 4 else 0
def bm(h:P[k]? =some p):P.getD k 0=p:=by rw[List.getD_eq_getElem?_getD,h];rfl
def jV(f:Nat->Bool)(k:Nat):(List.range (k+1)).all f=((List.range k).all f&&f k):=by rw[List.range_succ,List.all_append];simp
def ya(h:dW P=true)(H:P[k]? =some p):(k=0->p= -1)/\(0<k->0<=p/\p<k):=by have I:=(List.getElem?_eq_some_iff.1 H).1;unfold dW at h;rw[List.all_eq_true]at h;have:=h k (List.mem_range.2 I);simp only[okP,decide_eq_true_eq,bm H]at this;exact this
def gL(h:dW P=true)(I:P[k]? =some p):-1<=p/\p<k:=by
 have:=ya h I;rcases Nat.eq_zero_or_pos k with H|H
 .have:=this.1 H;omega
 .have:=this.2 H;omega
def oE{P:List Int}(h:dW P=true):∀(f:Nat) (v:Int),v<f->∀g:Nat,v<g->dep P f v=dep P g v
 |0,v,O,g,hg=>by
  cases g with
  |zero=>rfl
  |succ g=>unfold dep;rw[if_neg ahB]
 |f+1,v,O,g,hg=>by
  cases g with
  |zero=>unfold dep;rw[if_neg ahB]
  |succ g=>
   unfold dep;split;.rename_i hb;obtain⟨p,H⟩:=ai (show v.toNat<P.length by omega);have:=gL h H;rw[bm H,oE h f p ahB g ahB]
   .rfl
def iN(h:dW P=true)(H:P[k]? =some p):depL P k=if 0<=p then depL P p+1 else 1:=by
 have I:=(List.getElem?_eq_some_iff.1 H).1;have O:=gL h H;unfold depL;rw[oE h P.length k ahB (k+1) ahB];show(if 0<=(k:Int)/\(k:Int)<P.length then dep P k (P.getD (k:Int).toNat 0)+1 else 0)=_;rw[if_pos ahB,Int.toNat_natCast,bm H];split;.rw[oE h k p ahB P.length ahB]
 .have:dep P k p=0:=by
   cases k with
   |zero=>rfl
   |succ k=>unfold dep;rw[if_neg ahB]
  omega
def Bi(P:List Int):∀(f:Nat) (v:Int),dep P f v<=f
 |0,_=>Nat.le_refl _
 |f+1,v=>by
  unfold dep;split;.have:=Bi P f (P.getD v.toNat 0);omega
  .omega
def DL(P:List Int)(v:Int):depL P v<=P.length:=Bi P _ _
def cI(P:List Int)(k:Nat):am P (k+1)=if dm P k then am P k++[(k:Int)]else am P k:=by
 unfold am;rw[List.range_succ,List.map_append,List.filter_append];show _++List.filter (dm P) [(k:Int)]=_;by_cases h:dm P k=true;.simp[h]
 .simp[h]
def a8(P:List Int):∀k,(am P k).length<=k:=λk=>by
 unfold am
 have:=List.length_filter_le (dm P) ((List.range k).map Int.ofNat)
 simpa using this
def fR{v:Int}:v∈ac P↔dm P v=true:=by
 unfold ac am;rw[List.mem_filter];constructor;.exact λh=>h.2
 .intro h;refine⟨?_,h⟩;simp only[dm,decide_eq_true_eq]at h;rw[List.mem_map];exact⟨v.toNat,List.mem_range.2 ahB,by show((v.toNat:Nat):Int)=v;omega⟩
def iZ(h:P[k]? =some p)(x:Int):x∈P.take (k+1)↔x∈P.take k\/x=p:=by rw[bJ h];simp
def qA(n i:Nat)(f g:Nat->α)(u:α)(hi:g i=u)(V:∀j,j≠i->g j=f j):((List.range n).map f).set i u=(List.range n).map g:=by
 refine List.ext_getElem? λj=>?_;rw[List.getElem?_set];by_cases I:i=j
 .subst I;rw[if_pos rfl];by_cases H:i<n;.simp[H,hi]
  .simp[H]
 .rw[if_neg I];by_cases O:j<n;.simp[O,V j (λh=>I h.symm)]
  .simp[O]
def i9(n i:Nat)(f:Nat->α)(h:i<n):((List.range n).map f)[i]? =some (f i):=by simp[h]
end
section
open Go.RowKit
variable{l:List Int}{k:Nat}{p:Int->Bool}
def fQ(l:List Int)(x:Int):Int:=if x∈l then((l.idxOf x:Nat):Int)else -1
def D8(h:l[k]? =some x)(V:x∉l.take k):fQ l x=k:=by
 unfold fQ;have hm:x∈l:=List.mem_of_getElem? h;obtain⟨I,H⟩:=List.getElem?_eq_some_iff.1 h;rw[if_pos hm];have O:l=l.take k++(x :: l.drop (k+1)):=by conv=>lhs;rw[<-List.take_append_drop k l,List.drop_eq_getElem_cons I,H]
 have:l.idxOf x=k:=by rw[O,List.idxOf_append];rw[if_neg V,List.idxOf_cons_self];simp;omega
 rw[this]
def BV(h:x∉l):fQ l x= -1:=by unfold fQ;rw[if_neg h]
def eZ(l:List Int)(x:Int):(0<=fQ l x↔x∈l)/\fQ l x<l.length/\-1<=fQ l x:=by
 unfold fQ;split;.rename_i h;have:=List.idxOf_lt_length_of_mem h;exact⟨by simp[h],by omega,by omega⟩
 .rename_i h;exact⟨by simp[h],by omega,by omega⟩
def oI(p:Int->Bool)(l:List Int):Int:=match l.findIdx? p with|some i=>(i:Int)|none=>-1
def BA(h:l[k]? =some x)(V:p x=true)(O:∀y∈l.take k,p y=false):oI p l=k:=by
 obtain⟨I,H⟩:=List.getElem?_eq_some_iff.1 h;have:l.findIdx? p=some k:=by rw[List.findIdx?_eq_some_iff_getElem];refine⟨I,by rw[H];exact V,λj Y=>?_⟩;have:=O l[j] (List.mem_take_iff_getElem.2 ⟨j,by omega,rfl⟩);simp[this]
 unfold oI;rw[this]
def yQ(h:∀y∈l,p y=false):oI p l= -1:=by
 have:l.findIdx? p=none:=by rw[List.findIdx?_eq_none_iff];exact h
 unfold oI;rw[this]
def tm(p:Int->Bool)(l:List Int):(decide (0<=oI p l)=l.any p)/\oI p l<l.length/\-1<=oI p l:=by
 unfold oI;cases h:l.findIdx? p with
 |none=>rw[List.findIdx?_eq_none_iff]at h;refine⟨?_,by show(-1:Int)<_;omega,by show(-1:Int)<=-1;omega⟩;symm;show _=decide ((0:Int)<=-1);rw[show decide ((0:Int)<=-1)=false from rfl,List.any_eq_false];intro x I H;rw[h x I]at H;cases H
 |some i=>rw[List.findIdx?_eq_some_iff_getElem]at h;obtain⟨hi,H,_⟩:=h;refine⟨?_,by show(i:Int)<_;omega,by show(-1:Int)<=(i:Int);omega⟩;rw[decide_eq_true (show(0:Int)<=(i:Int)by omega)];symm;rw[List.any_eq_true];exact⟨l[i],List.getElem_mem hi,H⟩
def mA(w:World)(v:Value)(l:List Int)(x:Int)(h:RdL w v 1 encI l):E 119 #[v,J x] w λe w'=>e= returned (J (fQ l x))/\w=w':=by
  obtain⟨A,cap,rfl,l1,l2,I⟩:=h;have HR:=qh I;clear I;go_enter func119,ntmps119;go_wp2;go_loop [8] (λi=>∃k:Nat,i= J k/\k<=l.length/\x∉l.take k) (λi=>l.length-(intOf i).toNat);case atStart=>exact⟨0,rfl,by omega,by simp⟩
  case round=>
    obtain⟨k,rfl,hk,H⟩:=hrel;by_cases I':k<l.length
    . obtain⟨bl,off,rfl,KQ,hc⟩:=HR.o ahB;obtain⟨y,Y⟩:=ai I';have c0:=hc k y Y 0 _ rfl;simp only[Nat.add_zero,Nat.mul_one]at c0;have O:=qh (And.intro Y H);clear hc Y H;cases V:(x==y)
      . have ab:Kq (x∉l.take (k+1)):=qh (by
          rw[iZ O.o.1];rintro(h|h);. exact O.o.2 h
          . rw[h]at V;simp at V)
        go_wp2;go_round;case rel=>exact⟨k+1,by go_num,by omega,ab.o⟩
        case measure=>simp[intOf];omega
      . have hid:Kq (fQ l x=k):=qh (D8 (by rw[beq_iff_eq.1 V];exact O.o.1) O.o.2);go_wp2;go_ret;exact⟨aU hid.o.symm,rfl⟩
    . obtain rfl:k=l.length:=by omega
      rw[List.take_length]at H;have hid:Kq (fQ l x= -1):=qh (BV H);clear H;go_wp2;go_ret;exact⟨aU hid.o.symm,rfl⟩
def qX(w:World)(v:Value)(l:List Int)(x:Int)(h:RdL w v 1 encI l):E 87 #[v,J x] w λe w'=>e= returned (bool (decide (x∈l)))/\w=w':=by have I:=qh (mA w v l x h);have hb:decide (x∈l)=decide (0<=fQ l x):=decide_eq_decide.2 (eZ l x).1.symm;have H:=qh hb;clear h hb;go_enter func87,ntmps87;go_wp2_with (go_at_call 119;refine I.o.mono ?_;rintro e w' ⟨rfl,rfl⟩);go_ret;exact⟨az H.o.symm,rfl⟩
def AQ(w:World)(b:Nat)(v:Value)(l:List Int)(x:Int)(hc:w.cell? b=some v)(h:RdL w v 1 encI l):E 86 #[J x,↑b] w λe w'=>e= returned (bool (!decide (x∈l)))/\w=w':=by have H:=qh (qX w v l x h);clear h;go_enter func86,ntmps86;go_wp2_with (go_at_call 87;refine H.o.mono ?_;rintro e w' ⟨rfl,rfl⟩);go_ret;exact⟨az ahC,rfl⟩
def AR(w:World)(b:Nat)(ve v:Value)(en l:List Int)(Ny:w.cell? b=some ve)(Rd:RdL w ve 1 encI en)(h:RdL w v 1 encI l):E 118 #[v,.func (.func 86) #[] #[↑b]] w λe w'=>e= returned (J (oI (λx=>!decide (x∈en)) l))/\w=w':=by
  obtain⟨A,cap,rfl,l1,l2,I⟩:=h;have HR:=qh I;have HE:=qh (And.intro Ny Rd);clear I Ny Rd;go_enter func118,ntmps118;go_wp2;go_loop [8] (λi=>∃k:Nat,i= J k/\k<=l.length/\∀x∈l.take k,(!decide (x∈en))=false) (λi=>l.length-(intOf i).toNat);case atStart=>exact⟨0,rfl,by omega,by simp⟩
  case round=>
    obtain⟨k,rfl,hk,O⟩:=hrel;by_cases I':k<l.length
    . obtain⟨bl,off,rfl,KQ,hc⟩:=HR.o ahB;obtain⟨y,hy⟩:=ai I';have c0:=hc k y hy 0 _ rfl;simp only[Nat.add_zero,Nat.mul_one]at c0;have Y:=qh (And.intro hy O);clear hc hy O;have V:=qh (AQ w b ve en y HE.o.1 HE.o.2);cases H:(!decide (y∈en))
      . have ab:Kq (∀x∈l.take (k+1),(!decide (x∈en))=false):=qh (by
          intro x hx;rcases(iZ Y.o.1 x).1 hx with h|h
          . exact Y.o.2 x h
          . rw[h];exact H)
        rw[H]at V;clear H;go_wp2_with (go_at_call 86;refine V.o.mono ?_;rintro e w' ⟨rfl,rfl⟩);go_round;case rel=>exact⟨k+1,by go_num,by omega,ab.o⟩
        case measure=>simp[intOf];omega
      . have hid:Kq (oI (λx=>!decide (x∈en)) l=k):=qh (BA Y.o.1 H Y.o.2);rw[H]at V;clear H;go_wp2_with (go_at_call 86;refine V.o.mono ?_;rintro e w' ⟨rfl,rfl⟩);go_ret;exact⟨aU hid.o.symm,rfl⟩
    . obtain rfl:k=l.length:=by omega
      rw[List.take_length]at O;have hid:Kq (oI (λx=>!decide (x∈en)) l= -1):=qh (yQ O);clear O;go_wp2;go_ret;exact⟨aU hid.o.symm,rfl⟩
def my(w:World)(b:Nat)(H v:Value)(en l:List Int)(I:w.cell? b=some H)(O:RdL w H 1 encI en)(h:RdL w v 1 encI l):E 85 #[v,.func (.func 86) #[] #[↑b]] w λe w'=>e= returned (bool (l.any λx=>!decide (x∈en)))/\w=w':=by have Y:=qh (AR w b H v en l I O h);have V:=qh (tm (λx=>!decide (x∈en)) l).1;clear h I O;go_enter func85,ntmps85;go_wp2_with (go_at_call 118;refine Y.o.mono ?_;rintro e w' ⟨rfl,rfl⟩);go_ret;exact⟨az V.o,rfl⟩
end
section
open Go.RowKit
def GN(w:World)(v1 v2:Value)(a:List Ev)(h1:RdL w v1 4 encE a)(h2:RdL w v2 4 encE a):E 36 #[v1,v2] w λe w'=>e= returned (bool true)/\Qt w w':=by
  obtain⟨A1,c1,rfl,l1,m1,V⟩:=h1;obtain⟨A2,c2,rfl,l2,m2,Y⟩:=h2;go_enter func36,ntmps36;go_wp2_with fail;go_loopw [5] (λi w'=>∃k n:Nat,k<=a.length/\i= J k/\w'=w.drewN n) (λi _=>a.length-(intOf i).toNat);case atStart=>exact⟨0,0,by omega,rfl,rfl⟩
  case round=>
    obtain⟨k,n,hk,rfl,rfl⟩:=hrel;by_cases I':k<a.length
    . obtain⟨b1,o1,rfl,KP,H⟩:=V ahB;obtain⟨b2,o2,rfl,Nw,I⟩:=Y ahB;obtain⟨⟨x0,x1,x2,x3⟩,h⟩:=ai I';have p0:=H k _ h 0 _ rfl;have p1:=H k _ h 1 _ rfl;have p2:=H k _ h 2 _ rfl;have p3:=H k _ h 3 _ rfl;have O:=I k _ h 0 _ rfl;have q1:=I k _ h 1 _ rfl;have q2:=I k _ h 2 _ rfl;have q3:=I k _ h 3 _ rfl;simp only[Nat.add_zero]at p0 O;dsimp only at p0 O p1 q1 p2 q2 p3 q3;clear V Y H I h;go_wp2;go_quiet (fail);go_wp2;go_roundw;case rel=>exact⟨k+1,n+nq,by omega,by go_num,by first|rfl|rw[World.drewN_drewN]⟩
      case measure=>simp[intOf];omega
    . obtain rfl:k=a.length:=by omega
      go_wp2;go_ret;exact⟨rfl,n,rfl⟩
end
end Go.Proofs.YtglokdbiggbkjaaGreat
