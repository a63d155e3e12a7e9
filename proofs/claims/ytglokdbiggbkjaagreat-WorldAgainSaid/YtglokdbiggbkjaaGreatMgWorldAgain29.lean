/- Joined texts. -/
import Derived.Test.YtglokdbiggbkjaaGreatMgWorldAgain0
import Derived.Test.YtglokdbiggbkjaaGreatMgWorldAgain3
import Derived.Test.YtglokdbiggbkjaaGreatMgWorldAgain4
import Derived.Test.YtglokdbiggbkjaaGreatMgWorldAgain28
set_option linter.unusedVariables false
set_option linter.unusedSimpArgs false
set_option linter.defProp false
set_option maxRecDepth 100000
set_option maxHeartbeats 16000000
open Go.Proofs.Tryz
namespace Go.Proofs.YtglokdbiggbkjaaGreat
open Go.IntKind(i64)
open Go.Value(int bool slice agg tuple pointer)
open Go.Ending(returned)
open Go.Obj(cells)
variable{n k b:Nat}{l:List Int}{t:Int}{S:List Nat}
section
open Go Go.RowKit Go.Maps
def A4(p:Pl4):List Value:=[J p.rest,J p.stay,J p.times,.bool p.read]
def jl(pls:List Pl4)(rd:Bool)(t:Int):Pl4:=if 0<=t/\t<pls.length then {pls.getD t.toNat ⟨0,0,0,false⟩with read:=(pls.getD t.toNat ⟨0,0,0,false⟩).read&&rd} else⟨0,0,0,false⟩
section
variable{M:LkM n}
def LkM.sttI(M:LkM n)(st:M.σ)(t:Int):Int:=if 0<=t/\t<n then M.stt st t.toNat else 0
def LkM.runS(M:LkM n)(pls:List Pl4)(x:M.σ×(Int->Md))(t:Int):Ev×M.σ×(Int->Md):=
 ((M.pick x.1 (t,(ju (jl pls M.rd t) (x.2 t) (M.sttI x.1 t)).1)).1,(M.pick x.1 (t,(ju (jl pls M.rd t) (x.2 t) (M.sttI x.1 t)).1)).2,λj=>if j=t then(ju (jl pls M.rd t) (x.2 t) (M.sttI x.1 t)).2 else x.2 j)
def LkM.runB(M:LkM n)(pls:List Pl4)(x:M.σ×(Int->Md))(l:List Int)(k:Nat):M.σ×(Int->Md):=(l.take k).foldl (λx t=>(M.runS pls x t).2) x
def LkM.runE(M:LkM n)(pls:List Pl4)(x:M.σ×(Int->Md)):List Int->List Ev
 |[]=>[]
 |t :: l=>(M.runS pls x t).1 :: M.runE pls (M.runS pls x t).2 l
def qr{pls:List Pl4}{x:M.σ×(Int->Md)}{l:List Int}(h:l[k]? =some t):M.runB pls x l (k+1)=(M.runS pls (M.runB pls x l k) t).2:=by unfold LkM.runB;rw[a7 h,List.foldl_append];rfl
def CC{pls:List Pl4}(l:List Int):∀x:M.σ×(Int->Md),(M.runE pls x l).length=l.length:=by
 induction l with
 |nil=>intro _;rfl
 |cons p l h=>intro x;simp[LkM.runE,h]
def CB{pls:List Pl4}{l:List Int}:∀{x:M.σ×(Int->Md)} {k:Nat} {t:Int},l[k]? =some t->(M.runE pls x l)[k]? =some (M.runS pls (M.runB pls x l k) t).1:=by
 induction l with
 |nil=>intro x k t h;simp at h
 |cons q l H=>
  intro x k t h;cases k with
  |zero=>simp at h;subst h;rfl
  |succ k=>exact H (x:=(M.runS pls x q).2) h
def C4(p:Pl4)(m:Md)(s:Int){k:Int}(h:(0<=m.picked/\m.picked<=k)/\0<=m.asked/\m.asked<=k):(0<=(ju p m s).2.picked/\(ju p m s).2.picked<=k+1)/\0<=(ju p m s).2.asked/\(ju p m s).2.asked<=k+1:=by unfold ju;simp only;split<;>split<;>(try split)<;>simp only<;>omega
end
structure RnR{n:Nat}{M:LkM n}(X:WoB M)(pls:List Pl4)(w0 w:World)(mb:Nat)(l:List (Int×Nat))(x:M.σ×(Int->Md))(N k:Nat):Prop where
 is:bj X w x.1
 ok:M.ok x.1 (N+k)
 mp:kC w mb l
 md:∀t b,gk l t=some b->lD w b (jl pls M.rd t) (x.2 t)/\w0.heap.size<=b/\b+6<=w.heap.size/\(mb<b\/b+6<=mb)
 di:∀t b t' b',gk l t=some b->gk l t'=some b'->t≠t'->b+6<=b'\/b'+6<=b
 no:∀t,gk l t=none->x.2 t=⟨-1,0,0⟩
 le:∀t,(0<=(x.2 t).picked/\(x.2 t).picked<=k)/\0<=(x.2 t).asked/\(x.2 t).asked<=k
 mb:w0.heap.size<=mb
 tn:aa (M.fp X.b) w0 w
 hi:X.hi<=w0.heap.size
def gF{l:List (Int×Nat)}{n m:Int}(h:gk l n=none):gk (l++[(n,b)]) m=if m=n then some b else gk l m:=by
 induction l with
 |nil=>unfold gk;simp[gk]
 |cons x l O=>
  unfold gk at h;split at h;.cases h
  .rename_i e;have:=O h;simp only[List.cons_append,gk];rw[this];by_cases H:m=x.1;.rw[if_pos H,if_neg (λI=>e (by rw[<-I];exact H))];simp[H]
   .simp[H]
def aa.new{A:List Nat}{a b c:World}(h:aa A a b)(t:aa S b c)(H:∀i∈S,a.heap.size<=i):aa A a c:=
 ⟨t.os.trans h.os,t.tape.trans h.tape,t.output.trans h.output,Nat.le_trans h.size t.size,λi hi I=>(t.block i (Nat.lt_of_lt_of_le hi h.size) (λm=>by have:=H i m;omega)).trans (h.block i hi I)⟩
section
variable{M:LkM n}{X:WoB M}{pls:List Pl4}{w0 w w':World}{mb:Nat}{l:List (Int×Nat)}{x:M.σ×(Int->Md)}{N:Nat}
def RnR.mlt(h:RnR X pls w0 w mb l x N k):mb<w.heap.size:=by obtain⟨_,_,hg,_⟩:=h.mp;exact(Array.getElem?_eq_some_iff.1 hg).1
def RnR.far(G:M.Good)(h:RnR X pls w0 w mb l x N k)(t:aa S w w')(H:∀q∈S,w0.heap.size<=q/\q≠mb/\∀u b,gk l u=some b->q<b\/b+6<=q):RnR X pls w0 w' mb l x N k:=
 ⟨h.is.far G t (λq I=>Nat.le_trans h.hi (H q I).1),h.ok,h.mp.far t (λq=>(H _ q).2.1 rfl),λu b q=>⟨(h.md u b q).1.far t (λy O=>(H y O).2.2 u b q),(h.md u b q).2.1,Nat.le_trans (h.md u b q).2.2.1 t.size,(h.md u b q).2.2.2⟩,h.di,h.no,h.le,h.mb,h.tn.new t (λi hi=>(H i hi).1),h.hi⟩
def RnR.below(G:M.Good)(h:RnR X pls w0 w mb l x N k)(b:Below w.heap.size w w'):RnR X pls w0 w' mb l x N k:=h.far G (S:=[]) (aa.of_below b) ahq
def RnR.add(G:M.Good)(h:RnR X pls w0 w mb l x N k)(O:gk l t=none)(t1:aa [mb] w w')(hm:kC w' mb (l++[(t,b)]))(hk:lD w' b (jl pls M.rd t) ⟨-1,0,0⟩)(I:w.heap.size<=b/\b+6<=w'.heap.size):RnR X pls w0 w' mb (l++[(t,b)]) x N k:=by
 have ab:=h.mlt;have V:=h.mb;have hs:=h.tn.size;refine⟨h.is.far G t1 (λq hq=>by simp at hq;subst hq;exact Nat.le_trans h.hi V),h.ok,hm,λu c q=>?_,λu c u' c' q H Y=>?_,λu q=>?_,h.le,V,h.tn.new t1 (by simpa using V),h.hi⟩
 .rw[gF O]at q;split at q;.rename_i e;injection q with q;subst e q;rw[h.no _ O];exact⟨hk,by omega,I.2,by omega⟩
  .have:=h.md u c q;exact⟨this.1.far t1 (λy hy=>by simp at hy;subst hy;exact this.2.2.2),this.2.1,Nat.le_trans this.2.2.1 t1.size,this.2.2.2⟩
 .rw[gF O]at q H;split at q
  .injection q with q;split at H;.rename_i e1 e2;exact absurd (e1.trans e2.symm) Y
   .have:=(h.md u' c' H).2.2.1;omega
  .split at H;.injection H with H;have:=(h.md u c q).2.2.1;omega
   .exact h.di u c u' c' q H Y
 .rw[gF O]at q;split at q;.cases q
  .exact h.no u q
def RnR.next(G:M.Good)(h:RnR X pls w0 w mb l x N k)(V:gk l t=some b){gs V':World}{H:Md}{Y:M.σ}{x':M.σ×(Int->Md)}(t1:aa [b+1,b+2,b+3] w gs)(hk:lD gs b (jl pls M.rd t) H)(t2:aa (M.fp X.b) gs V')(hi:bj X V' Y)(ok:M.ok Y (N+k+1))(MO:(0<=H.picked/\H.picked<=k+1)/\0<=H.asked/\H.asked<=k+1)(hx:x'=(Y,λj=>if j=t then H else x.2 j)):RnR X pls w0 V' mb l x' N (k+1):=by
 subst hx;have I:=h.md t b V;have Kp:=h.is.lo G;have hs:=h.tn.size;have Ua:=h.hi;have Ps:=h.mb;have TD:∀q,q∈[b+1,b+2,b+3]->q=b+1\/q=b+2\/q=b+3:=λq hq=>by simpa using hq
 have s1:=t1.size;refine⟨hi,ok,(h.mp.far t1 (λq=>by have:=TD _ q;omega)).far t2 (λq=>by have:=Kp _ q;omega),λu c q=>?_,h.di,λu q=>?_,λu=>?_,Ps,(h.tn.new t1 (λq hq=>by have:=TD q hq;omega)).trans t2,Ua⟩
 .have hc:=h.md u c q;have s2:=t2.size;refine⟨?_,hc.2.1,by omega,hc.2.2.2⟩;simp only;by_cases e:u=t;.subst e;rw[V]at q;injection q with q;subst q;rw[if_pos rfl];exact hk.far t2 (λy O=>by have:=Kp y O;omega)
  .rw[if_neg e];have:=h.di u c t b q V e;exact(hc.1.far t1 (λy O=>by have:=TD y O;omega)).far t2 (λy O=>by have:=Kp y O;omega)
 .simp only;by_cases e:u=t;.subst e;rw[V]at q;cases q
  .rw[if_neg e];exact h.no u q
 .simp only;by_cases e:u=t;.rw[if_pos e];exact_mod_cast MO
  .rw[if_neg e];have:=h.le u;push_cast;omega
end
end
end Go.Proofs.YtglokdbiggbkjaaGreat
