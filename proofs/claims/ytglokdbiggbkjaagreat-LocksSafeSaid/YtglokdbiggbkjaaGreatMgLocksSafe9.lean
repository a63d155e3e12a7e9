/- Joined texts. -/
import Derived.Test.YtglokdbiggbkjaaGreatRows
import Derived.WalkKit
import Derived.Deep.RegionHeld3
import Derived.Deep.AppendLies
import Derived.Test.YtglokdbiggbkjaaGreatMgLocksSafe0
import Derived.Test.YtglokdbiggbkjaaGreatMgLocksSafe5
import Derived.Test.YtglokdbiggbkjaaGreatMgLocksSafe8
set_option linter.unusedVariables false
set_option linter.unusedSimpArgs false
set_option maxRecDepth 100000
set_option maxHeartbeats 16000000
namespace Go.Proofs.YtglokdbiggbkjaaGreat
section
open Go
structure CoC where
 kg:Nat
 kl:Nat
 tg:Int
 m:Int
 bud:Int
 node:Nat->Nat
 slot:Nat->Nat
 tl:Nat->Int
 cw:Nat->Int
structure Co where
 s:Ar
 G:List Sp
 L:List (List Sp)
 T:List Sp
def lsp (L:List (List Sp))(n i:Nat):Sp:=(L.getD n []).getD i Sp.zero
def js (L:List (List Sp))(n i:Nat)(p:Sp):List (List Sp):=L.set n ((L.getD n []).set i p)
def mn (count bud:Int)(alone:Bool):Bool:=decide (1<=count/\count<=bud)&&!alone
def stL (c:CoC)(st:Co)(i:Nat):Ar×Sp:=bG c.kl (c.tl (c.node i)) c.m st.s (c.slot i) (lsp st.L (c.node i) (c.slot i))
def stG (c:CoC)(st:Co)(i:Nat):Ar×Sp:=bG c.kg c.tg c.m st.s (c.node i) (sv st.G (c.node i))
def lj (c:CoC)(st:Co)(i:Nat):Bool:=bf (lsp st.L (c.node i) (c.slot i)) (stL c st i).2
def mX (c:CoC)(st:Co)(i:Nat):Bool:=bf (sv st.G (c.node i)) (stG c st i).2
def setL (c:CoC)(st:Co)(i:Nat)(p:Sp):List (List Sp):=js st.L (c.node i) (c.slot i) p
def zl (c:CoC)(st:Co)(i:Nat)(p:Sp):Ar×List Sp×List (List Sp)×Sp:=
 if p.pc=1 then((stL c st i).1,st.G,setL c st i (stL c st i).2,if lj c st i then {p with pc:=2} else p)
 else if p.pc=2 then
  if 0<ldW st.s.W (c.cw (c.node i))then(ae st.s (c.cw (c.node i)),st.G,st.L,{p with a:=ldW st.s.W (c.cw (c.node i)),pc:=10})
  else(ae st.s (c.cw (c.node i)),st.G.set (c.node i) (askK c.kg (sv st.G (c.node i))),st.L,{p with a:=ldW st.s.W (c.cw (c.node i)),pc:=3})
 else if p.pc=3 then((stG c st i).1,st.G.set (c.node i) (stG c st i).2,st.L,if mX c st i then {p with pc:=4} else p)
 else if p.pc=4 then(ac st.s (c.cw (c.node i)) 1,st.G,st.L,{p with a:=1,pc:=10})
 else(st.s,st.G,st.L,p)
def rE (c:CoC)(st:Co)(i:Nat)(p:Sp):Ar×List Sp×List (List Sp)×Sp:=
 if p.pc=11 then(ae st.s (c.cw (c.node i)),st.G,st.L,{p with a:=ldW st.s.W (c.cw (c.node i)),pc:=if c.bud<ldW st.s.W (c.cw (c.node i))then 14 else 12})
 else if p.pc=12 then
  ((ch c.kl (c.tl (c.node i)) st.s (c.slot i) (lsp st.L (c.node i) (c.slot i))).1,st.G,st.L,
   {p with pc:=if mn p.a c.bud (ch c.kl (c.tl (c.node i)) st.s (c.slot i) (lsp st.L (c.node i) (c.slot i))).2 then 13 else 14})
 else if p.pc=13 then(ac st.s (c.cw (c.node i)) (p.a+1),st.G,setL c st i (be (lsp st.L (c.node i) (c.slot i))),{p with pc:=16})
 else if p.pc=14 then(ac st.s (c.cw (c.node i)) 0,st.G.set (c.node i) (be (sv st.G (c.node i))),st.L,{p with pc:=15})
 else if p.pc=15 then
  if mX c st i then((stG c st i).1,st.G.set (c.node i) (stG c st i).2,setL c st i (be (lsp st.L (c.node i) (c.slot i))),{p with pc:=16})
  else((stG c st i).1,st.G.set (c.node i) (stG c st i).2,st.L,p)
 else if p.pc=16 then((stL c st i).1,st.G,setL c st i (stL c st i).2,if lj c st i then {p with pc:=0} else p)
 else(st.s,st.G,st.L,p)
def cO (c:CoC)(st:Co)(i:Nat)(p:Sp):Ar×List Sp×List (List Sp)×Sp:=if p.pc<10 then zl c st i p else rE c st i p
def jg (st:Co)(i:Nat)(r:Ar×List Sp×List (List Sp)×Sp):Co:=⟨r.1,r.2.1,r.2.2.1,st.T.set i r.2.2.2⟩
def ak (c:CoC)(st:Co)(i:Nat):Co:=if (sv st.T i).pc=0\/(sv st.T i).pc=10 then st else jg st i (cO c st i (sv st.T i))
def bD (c:CoC)(st:Co)(i:Nat):Co:=
 if (sv st.T i).pc=0 then {st with L:=setL c st i (askK c.kl (lsp st.L (c.node i) (c.slot i))),T:=st.T.set i {(sv st.T i)with pc:=1}} else st
def ay (st:Co)(i:Nat):Co:=if (sv st.T i).pc=10 then {st with T:=st.T.set i {(sv st.T i)with pc:=11}} else st
structure CoB (c:CoC)(B:Int)(st:Co):Prop where
 w:WdB B st.s
 g:∀p∈st.G,SpB c.kg B p
 l:∀x∈st.L,∀p∈x,SpB c.kl B p
 t:∀p∈st.T,0<=p.a/\p.a<=B
theorem spz (k:Nat){B:Int}(hB:0<=B):SpB k B Sp.zero:=⟨Int.le_refl _,hB,by show -B<=0;omega,hB,λ_=>Int.le_refl _⟩
theorem iA{S:List Sp}{P:Sp->Prop}(h:∀p∈S,P p)(hz:P Sp.zero)(i:Nat):P (S.getD i Sp.zero):=by
 rw[List.getD_eq_getElem?_getD];by_cases hi:i<S.length;·rw[List.getElem?_eq_getElem hi];exact h _ (List.getElem_mem hi)
 ·rw[List.getElem?_eq_none QX];exact hz
theorem eb{α:Type}{S:List α}{P:α->Prop}(h:∀p∈S,P p)(i:Nat){p:α}(hp:P p):∀q∈S.set i p,P q:=by
 intro q hq;rcases List.mem_or_eq_of_mem_set hq with h1|h1
 ·exact h q h1
 ·rw[h1];exact hp
section
variable{c:CoC}{B:Int}{st:Co}
theorem CoB.lall (h:CoB c B st)(n:Nat):∀p∈st.L.getD n [],SpB c.kl B p:=by
 rw[List.getD_eq_getElem?_getD];by_cases hi:n<st.L.length;·rw[List.getElem?_eq_getElem hi];exact h.l _ (List.getElem_mem hi)
 ·rw[List.getElem?_eq_none QX];intro p hp;cases hp
theorem CoB.lsp (h:CoB c B st)(hB:0<=B)(n i:Nat):SpB c.kl B (lsp st.L n i):=iA (h.lall n) (spz _ hB) i
theorem CoB.gsp (h:CoB c B st)(hB:0<=B)(n:Nat):SpB c.kg B (sv st.G n):=iA h.g (spz _ hB) n
theorem CoB.tsp (h:CoB c B st)(hB:0<=B)(n:Nat):0<=(sv st.T n).a/\(sv st.T n).a<=B:=iA (P:=λp=>0<=p.a/\p.a<=B) h.t ⟨Int.le_refl _,hB⟩ n
theorem CoB.mono (h:CoB c B st){C:Int}(hC:B<=C):CoB c C st:=
 ⟨h.w.mono hC,λp hp=>(h.g p hp).mono hC,λx hx p hp=>(h.l x hx p hp).mono hC,λp hp=>⟨(h.t p hp).1,by have:=(h.t p hp).2;omega⟩⟩
theorem CoB.setL (h:CoB c B st)(n i:Nat){p:Sp}(hp:SpB c.kl B p):∀x∈js st.L n i p,∀q∈x,SpB c.kl B q:=eb h.l n (eb (h.lall n) i hp)
theorem Ce (h:CoB c B st) (hB:1<=B) (hB2:B<=10000000000000) (i:Nat) (hs:(c.slot i:Int)+1<=B) (hn:(c.node i:Int)+1<=B) (hm:1<=c.m/\c.m<=B) (p:Sp) (hp:0<=p.a/\p.a<=B):
    CoB c (B+2) (jg st i (cO c st i p)):=by
  have h2:=h.mono (C:=B+2) QX;have hB0:(0:Int)<=B:=by omega
  have hL:=p5 (t:=c.tl (c.node i)) (m:=c.m) (i:=(c.slot i:Int)) h.w (h.lsp hB0 (c.node i) (c.slot i)) hB0 hB2 ⟨by omega,hs⟩ hm;have hG:=p5 (t:=c.tg) (m:=c.m) (i:=(c.node i:Int)) h.w (h.gsp hB0 (c.node i)) hB0 hB2 ⟨by omega,hn⟩ hm;have hld:=h.w.ld hB0 (c.cw (c.node i));have hp2:0<=p.a/\p.a<=B+2:=⟨hp.1,by omega⟩;have hT:∀q:Sp,(0<=q.a/\q.a<=B+2)->∀r∈st.T.set i q,0<=r.a/\r.a<=B+2:=λq hq=>eb h2.t i hq;have hv:0<=ldW st.s.W (c.cw (c.node i))/\ldW st.s.W (c.cw (c.node i))<=B+2:=⟨hld.1,by omega⟩;have hLv:SpB c.kl (B+2) (be (Go.Proofs.YtglokdbiggbkjaaGreat.lsp st.L (c.node i) (c.slot i))):=mV (h2.lsp QX _ _);have hGv:SpB c.kg (B+2) (be (sv st.G (c.node i))):=mV (h2.gsp QX _);have hGa:SpB c.kg (B+2) (askK c.kg (sv st.G (c.node i))):=tC (h2.gsp QX _) QX;unfold cO;split
  · unfold zl;split;· exact⟨hL.1,h2.g,h2.setL _ _ hL.2,hT _ (by split<;>exact hp2)⟩
    split
    · split;· exact⟨h2.w.load _,h2.g,h2.l,hT _ hv⟩
      · exact⟨h2.w.load _,eb h2.g _ hGa,h2.l,hT _ hv⟩
    split;· exact⟨hG.1,eb h2.g _ hG.2,h2.l,hT _ (by split<;>exact hp2)⟩
    split;· exact⟨h2.w.store _ _ QX,h2.g,h2.l,hT _ ⟨by show(0:Int)<=1;omega,by show(1:Int)<=_;omega⟩⟩
    · exact⟨h2.w,h2.g,h2.l,hT _ hp2⟩
  · unfold rE;split;· exact⟨h2.w.load _,h2.g,h2.l,hT _ hv⟩
    split
    · refine⟨?_,h2.g,h2.l,hT _ hp2⟩;show WdB _ (ch _ _ _ _ _).1;unfold ch;split
      · split;· exact h2.w
        split;· exact h2.w.load _
        split<;>exact h2.w.load _
      · exact h2.w
    split;· exact⟨h2.w.store _ _ QX,h2.g,h2.setL _ _ hLv,hT _ hp2⟩
    split;· exact⟨h2.w.store _ _ QX,eb h2.g _ hGv,h2.l,hT _ hp2⟩
    split
    · split;· exact⟨hG.1,eb h2.g _ hG.2,h2.setL _ _ hLv,hT _ hp2⟩
      · exact⟨hG.1,eb h2.g _ hG.2,h2.l,hT _ hp2⟩
    split;· exact⟨hL.1,h2.g,h2.setL _ _ hL.2,hT _ (by split<;>exact hp2)⟩
    · exact⟨h2.w,h2.g,h2.l,hT _ hp2⟩
end
end
section
open Go.RowKit
inductive FlG:Nat->FuncId->FuncId->FuncId->Prop
 |tas:FlG 1 408 411 409
 |ticket:FlG 2 424 423 422
 |parted:FlG 3 428 434 429
 |mcs:FlG 4 439 444 440
 |clh:FlG 5 452 456 453
inductive FlF:Nat->FuncId->FuncId->FuncId->FuncId->Prop
 |parted:FlF 3 434 433 426 427
 |mcs:FlF 4 444 443 437 438
 |clh:FlF 5 456 455 450 451
theorem FlF.g{k:Nat}{f1 f2 f3 f4:FuncId}(K:FlF k f1 f2 f3 f4):∃a b,FlG k a f1 b:=by cases K<;>exact⟨_,_,by constructor⟩
section
variable{w w':World}{a g:Nat}{x:Fx}{s:Ar}{S:List Sp}{k:Nat}{f1 f2 f3 f4:FuncId}
def slC (k:Nat):Nat:=if k=2 then 0 else if k<=3 then 3 else 2
theorem Bm (K:FlG k f1 f2 f3)(h:KIs w a g k x s S):∃c,w.cell? ⟨x.l,c,none⟩=some (.slice (some ⟨x.q,0,none⟩) x.n x.cap)/\c=slC k:=by
 cases K;·exact⟨3,h.lk.cell 3,rfl⟩
 ·exact⟨0,h.lk.cell 0,rfl⟩
 ·exact⟨3,h.lk.cell 3,rfl⟩
 ·exact⟨2,h.lk.cell 2,rfl⟩
 ·exact⟨2,h.lk.cell 2,rfl⟩
theorem Bo (K:FlG k f1 f2 f3)(h:KIs w a g k x s S):Calls Tryz.prog f1 #[↑x.l] w λe w'=>e= .returned (.int .i64 x.n)/\w=w':=by
 obtain⟨c,c2,hc⟩:=Bm K h;clear h;cases K
 all_goals
  simp[slC]at hc;subst hc;first|go_enter Tryz.func408,Tryz.ntmps408|go_enter Tryz.func424,Tryz.ntmps424|go_enter Tryz.func428,Tryz.ntmps428|go_enter Tryz.func439,Tryz.ntmps439|go_enter Tryz.func452,Tryz.ntmps452
  go_wp2;go_ret;exact⟨rfl,rfl⟩
theorem bC (K:FlG k f1 f2 f3)(h:KIs w a g k x s S)(i:Nat)(hi:i<x.n):Calls Tryz.prog f2 #[↑x.l,.int .i64 i] w λe w'=>e= .returned (.pointer (some ⟨x.q,i*4,none⟩))/\w=w':=by
 obtain⟨c,c2,hc⟩:=Bm K h;have hn:=h.n32;have t2:¬(i:Int)<0:=by omega
 have t3:¬((x.n:Nat):Int)<=(i:Int):=by omega
 have HS:=qh (Bo K h);clear h;cases K
 all_goals
  simp[slC]at hc;subst hc;first|go_enter Tryz.func411,Tryz.ntmps411|go_enter Tryz.func423,Tryz.ntmps423|go_enter Tryz.func434,Tryz.ntmps434|go_enter Tryz.func444,Tryz.ntmps444|go_enter Tryz.func456,Tryz.ntmps456
  go_wp2_with (refine HS.o.mono ?_;rintro e w' ⟨rfl,rfl⟩);go_ret;exact⟨by simp,rfl⟩
theorem dZ (K:FlG k f1 f2 f3)(h:KIs w a g k x s S)(i:Nat)(p:Sp)(hp:S[i]? =some p):Calls Tryz.prog f3 #[↑x.l,.int .i64 i] w λe w'=>e= .returned (aE p)/\Below w.heap.size w w':=by
 have hi:i<x.n:=by have:=(List.getElem?_eq_some_iff.1 hp).1;rw[h.n]at this;exact this
 have a0:=h.sp.cell hp 0 _ rfl;have a1:=h.sp.cell hp 1 _ rfl;have a2:=h.sp.cell hp 2 _ rfl;have a3:=h.sp.cell hp 3 _ rfl;simp only[Nat.add_zero]at a0;have hs2:=h.sp.lt;have HS:=qh (bC K (h.below ((Below.refl _ _).alloc (Nat.le_refl _) (.cells #[.int .i64 0,.int .i64 0,.int .i64 0,.int .i64 0] 113))) i hi);clear h hp;cases K
 all_goals
  first|go_enter Tryz.func409,Tryz.ntmps409|go_enter Tryz.func422,Tryz.ntmps422|go_enter Tryz.func429,Tryz.ntmps429|go_enter Tryz.func440,Tryz.ntmps440|go_enter Tryz.func453,Tryz.ntmps453
  go_wp2_with (refine HS.o.mono ?_;rintro e w' ⟨rfl,rfl⟩);exact bodyPost_ret (results_cell_row Q5 _ _ w.heap.size 113 _ (0,0) _ Q5 (heap_alloc_new w _) Tryz.underlying113 rfl Q0) rfl ⟨rfl,(Below.refl _ _).alloc (Nat.le_refl _) _⟩
theorem ra (K:FlF k f1 f2 f3 f4)(h:KIs w a g k x s S)(i:Nat)(p:Sp)(hp:S[i]? =some p)(from_ to_:Int):Calls Tryz.prog f2 #[↑x.l,.int .i64 i,.int .i64 from_,.int .i64 to_] w λe w'=>e= .returned (.bool (decide (p.pc=from_)))/\KIs w' a g k x s (if p.pc=from_ then S.set i {p with pc:=to_} else S)/\aa [x.q] w w':=by
 have hi:i<x.n:=by have:=(List.getElem?_eq_some_iff.1 hp).1;rw[h.n]at this;exact this
 have a0:=h.sp.cell hp 0 _ rfl;have f0:=h.sp.free (i*4);simp only[Nat.add_zero]at a0;obtain⟨_,_,KG⟩:=K.g;have HS:=qh (bC KG h i hi);have H:=qh h;have HP:=qh hp;clear h hp KG;cases K
 all_goals
  cases hc:(p.pc !=from_)
  ·have e:p.pc=from_:=(by simpa using hc);first|go_enter Tryz.func433,Tryz.ntmps433|go_enter Tryz.func443,Tryz.ntmps443|go_enter Tryz.func455,Tryz.ntmps455
   go_wp2_with (refine HS.o.mono ?_;rintro e w' ⟨rfl,rfl⟩);go_ret;exact⟨by first|rfl|(rw[decide_eq_true e];rfl),by first|exact H.o.put0 HP.o rfl|(rw[if_pos e];exact H.o.put0 HP.o rfl),aU _ _ _⟩
  ·have e:¬p.pc=from_:=(by simpa using hc);first|go_enter Tryz.func433,Tryz.ntmps433|go_enter Tryz.func443,Tryz.ntmps443|go_enter Tryz.func455,Tryz.ntmps455
   go_wp2_with (refine HS.o.mono ?_;rintro e w' ⟨rfl,rfl⟩);go_ret;exact⟨by first|rfl|(rw[decide_eq_false e];rfl),by first|exact H.o|(rw[if_neg e];exact H.o),aa.refl _ _⟩
theorem mM {Q:Prop} (h:Q:=by
    refine⟨rfl,?_,HK.o.2⟩
    have k1:=HK.o.1
    first
      | unfold askK
      | unfold be
    split
    · rename_i e
      rw[if_pos e]at k1
      exact k1
    · rename_i e
      rw[if_neg e]at k1
      rw[bX HP.o]
      exact k1):Q:=h
theorem tz (K:FlF k f1 f2 f3 f4)(h:KIs w a g k x s S)(i:Nat)(p:Sp)(hp:S[i]? =some p):Calls Tryz.prog f3 #[↑x.l,.int .i64 i] w λe w'=>e= .returned (.bool (decide (p.pc=0)))/\KIs w' a g k x s (S.set i (askK k p))/\aa [x.q] w w':=by
 have HT:=qh (ra K h i p hp 0 1);have HP:=qh hp;clear h hp;cases K
 all_goals
  first|go_enter Tryz.func426,Tryz.ntmps426|go_enter Tryz.func437,Tryz.ntmps437|go_enter Tryz.func450,Tryz.ntmps450
  go_wp2_with (refine HT.o.mono ?_;rintro e w' ⟨rfl,k1,t1⟩;have HK:=qh (And.intro k1 t1);clear k1 t1);go_ret;exact mM
theorem nO (K:FlF k f1 f2 f3 f4)(h:KIs w a g k x s S)(i:Nat)(p:Sp)(hp:S[i]? =some p):Calls Tryz.prog f4 #[↑x.l,.int .i64 i] w λe w'=>e= .returned (.bool (decide (p.pc=10)))/\KIs w' a g k x s (S.set i (be p))/\aa [x.q] w w':=by
 have HT:=qh (ra K h i p hp 10 11);have HP:=qh hp;clear h hp;cases K
 all_goals
  first|go_enter Tryz.func427,Tryz.ntmps427|go_enter Tryz.func438,Tryz.ntmps438|go_enter Tryz.func451,Tryz.ntmps451
  go_wp2_with (refine HT.o.mono ?_;rintro e w' ⟨rfl,k1,t1⟩;have HK:=qh (And.intro k1 t1);clear k1 t1);go_ret;exact mM
theorem BU (h:KIs w a g 1 x s S)(i:Nat)(p:Sp)(hp:S[i]? =some p):Calls Tryz.prog 406 #[↑x.l,.int .i64 i] w λe w'=>e= .returned (.bool (decide (p.pc=0)))/\KIs w' a g 1 x s (S.set i (askK 1 p))/\aa [x.q] w w':=by
 have hi:i<x.n:=by have:=(List.getElem?_eq_some_iff.1 hp).1;rw[h.n]at this;exact this
 have a0:=h.sp.cell hp 0 _ rfl;have a1:=h.sp.cell hp 1 _ rfl;have f0:=h.sp.free (i*4);have f1:=h.sp.free (i*4+1);simp only[Nat.add_zero]at a0;have H:=qh h;have HP:=qh hp;clear h hp;cases hc:(p.pc !=0)
 ·have e:p.pc=0:=by simpa using hc
  go_enter Tryz.func406,Tryz.ntmps406;go_wp2_with (go_at_call 411;refine(bC .tas H.o i hi).mono ?_;rintro e w' ⟨rfl,rfl⟩);go_ret;have k1:=(H.o.put0 HP.o (p':={p with pc:=1}) rfl).put (au HP.o _) (j:=1) (p':={p with pc:=1,a:=1}) QZ rfl;try rw[dT]at k1
  refine⟨by first|rfl|(rw[decide_eq_true e];rfl),?_,(aU _ _ _).trans (aU _ _ _)⟩;unfold askK;rw[if_pos e];exact k1
 ·have e:¬p.pc=0:=by simpa using hc
  go_enter Tryz.func406,Tryz.ntmps406;go_wp2_with (go_at_call 411;refine(bC .tas H.o i hi).mono ?_;rintro e w' ⟨rfl,rfl⟩);go_ret;refine⟨by first|rfl|(rw[decide_eq_false e];rfl),?_,aa.refl _ _⟩;unfold askK;rw[if_neg e,bX HP.o];exact H.o
theorem xG (h:KIs w a g 1 x s S)(i:Nat)(p:Sp)(hp:S[i]? =some p):Calls Tryz.prog 407 #[↑x.l,.int .i64 i] w λe w'=>e= .returned (.bool (decide (p.pc=10)))/\KIs w' a g 1 x s (S.set i (be p))/\aa [x.q] w w':=by
 have hi:i<x.n:=by have:=(List.getElem?_eq_some_iff.1 hp).1;rw[h.n]at this;exact this
 have a0:=h.sp.cell hp 0 _ rfl;have a1:=h.sp.cell hp 1 _ rfl;have f0:=h.sp.free (i*4);have f1:=h.sp.free (i*4+1);simp only[Nat.add_zero]at a0;have H:=qh h;have HP:=qh hp;clear h hp;cases hc:(p.pc !=10)
 ·have e:p.pc=10:=by simpa using hc
  go_enter Tryz.func407,Tryz.ntmps407;go_wp2_with (go_at_call 411;refine(bC .tas H.o i hi).mono ?_;rintro e w' ⟨rfl,rfl⟩);go_ret;have k1:=H.o.put0 HP.o (p':={p with pc:=11}) rfl;try rw[dT]at k1
  refine⟨by first|rfl|(rw[decide_eq_true e];rfl),?_,aU _ _ _⟩;unfold be;rw[if_pos e];exact k1
 ·have e:¬p.pc=10:=by simpa using hc
  go_enter Tryz.func407,Tryz.ntmps407;go_wp2_with (go_at_call 411;refine(bC .tas H.o i hi).mono ?_;rintro e w' ⟨rfl,rfl⟩);go_ret;refine⟨by first|rfl|(rw[decide_eq_false e];rfl),?_,aa.refl _ _⟩;unfold be;rw[if_neg e,bX HP.o];exact H.o
theorem pv (h:KIs w a g 2 x s S)(i:Nat)(p:Sp)(hp:S[i]? =some p)(pc:Int):Calls Tryz.prog 420 #[↑x.l,.int .i64 i,.int .i64 pc] w λe w'=>e= .returned (.pointer (if p.pc=pc then some ⟨x.q,i*4,none⟩else none))/\w=w':=by
 have hi:i<x.n:=by have:=(List.getElem?_eq_some_iff.1 hp).1;rw[h.n]at this;exact this
 have a0:=h.sp.cell hp 0 _ rfl;simp only[Nat.add_zero]at a0;have H:=qh h;clear h hp;cases hc:(p.pc !=pc)
 ·have e:p.pc=pc:=by simpa using hc
  go_enter Tryz.func420,Tryz.ntmps420;go_wp2_with (go_at_call 423;refine(bC .ticket H.o i hi).mono ?_;rintro e w' ⟨rfl,rfl⟩);go_ret;exact⟨by first|rfl|(rw[if_pos e];rfl),rfl⟩
 ·have e:¬p.pc=pc:=by simpa using hc
  go_enter Tryz.func420,Tryz.ntmps420;go_wp2_with (go_at_call 423;refine(bC .ticket H.o i hi).mono ?_;rintro e w' ⟨rfl,rfl⟩);go_ret;exact⟨by first|rfl|(rw[if_neg e];rfl),rfl⟩
theorem jP (h:KIs w a g 2 x s S)(i:Nat)(p:Sp)(hp:S[i]? =some p)(from_ to_:Int):Calls Tryz.prog 421 #[↑x.l,.int .i64 i,.int .i64 from_,.int .i64 to_] w λe w'=>e= .returned (.bool (decide (p.pc=from_)))/\KIs w' a g 2 x s (if p.pc=from_ then S.set i {p with pc:=to_} else S)/\aa [x.q] w w':=by
 have f0:=h.sp.free (i*4);have a0:=h.sp.cell hp 0 _ rfl;simp only[Nat.add_zero]at a0;have HA:=qh (pv h i p hp from_);have H:=qh h;have HP:=qh hp;clear h hp;by_cases e:p.pc=from_;·rw[if_pos e]at HA;rw[decide_eq_true e,if_pos e];clear e;go_enter Tryz.func421,Tryz.ntmps421;go_wp2_with (go_at_call 420;refine HA.o.mono ?_;rintro e w' ⟨rfl,rfl⟩);go_ret;exact⟨rfl,H.o.put0 HP.o rfl,aU _ _ _⟩
 ·rw[if_neg e]at HA;rw[decide_eq_false e,if_neg e];clear e;go_enter Tryz.func421,Tryz.ntmps421;go_wp2_with (go_at_call 420;refine HA.o.mono ?_;rintro e w' ⟨rfl,rfl⟩);go_ret;exact⟨rfl,H.o,aa.refl _ _⟩
theorem ed (w:World)(l:Nat):Calls Tryz.prog 419 #[↑l] w λe w'=>e= .returned ↑l/\w=w':=by go_enter Tryz.func419,Tryz.ntmps419;exact gs
theorem tB (h:KIs w a g 2 x s S)(i:Nat)(p:Sp)(hp:S[i]? =some p):Calls Tryz.prog 414 #[↑x.l,.int .i64 i] w λe w'=>e= .returned (.bool (decide (p.pc=0)))/\KIs w' a g 2 x s (S.set i (askK 2 p))/\aa [x.q] w w':=by have HT:=qh (jP h i p hp 0 1);have HP:=qh hp;clear h hp;go_enter Tryz.func414,Tryz.ntmps414;exact IR
theorem qx (h:KIs w a g 2 x s S)(i:Nat)(p:Sp)(hp:S[i]? =some p):Calls Tryz.prog 415 #[↑x.l,.int .i64 i] w λe w'=>e= .returned (.bool (decide (p.pc=10)))/\KIs w' a g 2 x s (S.set i (be p))/\aa [x.q] w w':=by have HT:=qh (jP h i p hp 10 11);have HP:=qh hp;clear h hp;go_enter Tryz.func415,Tryz.ntmps415;exact IR
theorem BE {Q:Prop} (h:Q:=by
    rintro e w' ⟨rfl,k,t⟩
    rw[if_pos rfl,dT]at k
    exact⟨by rw[decide_eq_true rfl],k,t⟩):Q:=h
theorem jO (K:FlF k f1 f2 f3 f4)(i:Nat)(p0 p:Sp)(hp:S[i]? =some p0)(h:KIs w a g k x s (S.set i p))(to_:Int):Calls Tryz.prog f2 #[↑x.l,.int .i64 i,.int .i64 p.pc,.int .i64 to_] w λe w'=>e= .returned (.bool true)/\KIs w' a g k x s (S.set i {p with pc:=to_})/\aa [x.q] w w':=by refine(ra K h i p (au hp p) p.pc to_).mono ?_;exact BE
theorem jd (i:Nat)(p0 p:Sp)(hp:S[i]? =some p0)(h:KIs w a g 2 x s (S.set i p))(to_:Int):Calls Tryz.prog 421 #[↑x.l,.int .i64 i,.int .i64 p.pc,.int .i64 to_] w λe w'=>e= .returned (.bool true)/\KIs w' a g 2 x s (S.set i {p with pc:=to_})/\aa [x.q] w w':=by refine(jP h i p (au hp p) p.pc to_).mono ?_;exact BE
end
end
section
open Go Go.RowKit
theorem tk {P:Program} {ops:Array Oper} {Q:Exit->Act->World->Prop} {md:Region.Mode} {S:World->Prop} (i:Nat) {oi:Oper} {v:Value} {fuel:Nat} {listed:Array Bool} {a:Act} {w:World} {B:Prop} (h:B)
    (hi:ops[i]? =some oi:=by rfl) (hs:Region.noSelect ops=true:=by kernel_rfl) (hf:Region.free md ops listed i=true:=by kernel_rfl) (hr:(Region.ready md ops listed).contains i=true:=by kernel_rfl)
    (hQ:∀c a w,Q (.panic c) (a.put oi.dst v) w->Q (.panic c) a w:=by exact λ_ _ _ h=>h)
    (hy:YieldsIf P ops S oi v a:=by first|exact Or.inr ⟨by rfl,rfl⟩|exact Or.inl ⟨by rfl,by intro W hSw;(try dsimp only at hSw);go_simp;try with_reducible rfl⟩)
    (hS:S w:=by assumption)
    (e:wpAnyH P md ops Q S fuel (listed.setIfInBounds i true) (a.put oi.dst v) w=B:=by first|(simp only[Act.put,List.setIfInBounds_toArray,List.set_cons_zero,List.set_cons_succ,List.getElem_toArray,List.getElem_cons_zero,List.getElem_cons_succ];done)|(simp only[Act.put,List.setIfInBounds_toArray,List.set_cons_zero,List.set_cons_succ,List.getElem_toArray,List.getElem_cons_zero,List.getElem_cons_succ];rfl)|rfl):
    wpAnyH P md ops Q S (fuel+1) listed a w:=wpAnyH_take hi hs hf hr hQ hy hS (e ▸ h)
end
section
open Go.RowKit
section
variable{w w':World}{a g k:Nat}{x:Fx}{s:Ar}{S:List Sp}
def dy (w:World)(a g k:Nat)(x:Fx)(s:Ar)(S:List Sp)(i:Nat)(p:Sp)(e:Ending)(w':World):Prop:=
 e= .returned (.bool (bf p (bG k x.t x.m s i p).2))/\KIs w' a g k x (bG k x.t x.m s i p).1 (S.set i (bG k x.t x.m s i p).2)/\aa [a,g,x.q] w w'
def pd (w:World)(a g k:Nat)(x:Fx)(s:Ar)(S:List Sp)(i:Nat)(p:Sp)(e:Ending)(w':World):Prop:=
 e= .returned (.bool (ch k x.t s i p).2)/\KIs w' a g k x (ch k x.t s i p).1 S/\aa [a,g,x.q] w w'
theorem aI{q:Nat}(h:aa [a,g] w w'):aa [a,g,q] w w':=h.mono QY
theorem aG{q:Nat}(h:aa [q] w w'):aa [a,g,q] w w':=h.mono QY
theorem KIs.ti (h:KIs w a g 2 x s S):w.cell? ⟨x.l,1,none⟩=some ↑a/\w.cell? ⟨x.l,2,none⟩=some (.int .i64 x.t):=⟨h.lk.cell 1,h.lk.cell 2⟩
theorem uQ (h:KIs w a g 2 x s S) (i:Nat) (u b z:Int) (hp:S[i]? =some (⟨1,u,b,z⟩:Sp)) (ho:s.ops+1<=1000000000000) (hw:inR s.W x.t=true) (hv0:0<=ldW s.W x.t) (hv1:ldW s.W x.t<=10000000000000):
    Calls Tryz.prog 418 #[↑x.l,.int .i64 i] w (dy w a g 2 x s S i ⟨1,u,b,z⟩):=by
  have hi:i<x.n:=by have:=(List.getElem?_eq_some_iff.1 hp).1;rw[h.n]at this;exact this
  have a0:=h.sp.cell hp 0 _ rfl;simp only[Nat.add_zero]at a0;obtain⟨ar',har⟩:∃q,q=addA s x.t 1:=⟨_,rfl⟩;obtain⟨v,hv⟩:∃v,v=ldW s.W x.t:=⟨_,rfl⟩;have HX:Kq (bG 2 x.t x.m s i ⟨1,u,b,z⟩=(ar',⟨2,v,b,z⟩)):=qh Rc;have HO0:=(λW (k:KIs W a g 2 x s S)=>gY k.ar x.t 1 ho);rw[if_pos hw,<-har,<-hv]at HO0;rw[<-hv]at hv0 hv1;have e1:IntKind.i64.wrap (v+1)=v+1:=IntWalk.i64_in _ QX;have e2:IntKind.i64.wrap v=v:=IntWalk.i64_in _ QX;rw[e1]at HO0;have HO:=qh HO0;have HP:=qh hp;have K0:=qh h;have K1:=qh (h.below ((Below.refl _ w).drew));clear HO0 h hp har hv e1;go_enter Tryz.func418,Tryz.ntmps418;go_wp2_with (go_at_call 419;refine(ed _ _).mono ?_;rintro e w' ⟨rfl,rfl⟩);go_wp2_with (go_at_call 423;refine(bC .ticket K0.o i hi).mono ?_;rintro e w' ⟨rfl,rfl⟩)
  go_region_held3 (λW=>W.cell? ⟨x.l,1,none⟩=some ↑a/\W.cell? ⟨x.l,2,none⟩=some (.int .i64 x.t))
    (first|with_reducible exact K1.o.ti|with_reducible exact K2.o.ti|with_reducible exact K3.o.ti)
    (first
      | (go_at_call 298;go_loud (refine(HO.o _ K1.o).mono ?_);rintro en w3 ⟨rfl,a3,t3⟩;have K2:=qh (K1.o.op t3 a3);have T2:=qh (((aa.refl [a,g,x.q] w).drew).trans (aI t3));have K3:=qh (K2.o.put (p':=(⟨1,v,b,z⟩:Sp)) HP.o (j:=1) (u:= .int .i64 v) QZ rfl);have e4:=K2.o.sp.cell HP.o 1 _ rfl;have z1:=K2.o.sp.free (i*4+1);clear a3 t3))
  all_goals have HT:=qh (jd i _ _ HP.o K3.o 2);go_wp2_with (go_at_call 421;refine HT.o.mono ?_;rintro e w' ⟨rfl,k4,t4⟩;have K4:=qh (And.intro k4 t4);clear k4 t4);go_ret;rw[dy,HX.o];exact⟨rfl,K4.o.1,(T2.o.trans (aG (aU _ _ _))).trans (aG K4.o.2)⟩
theorem uR (h:KIs w a g 2 x s S) (i:Nat) (u b z:Int) (hp:S[i]? =some (⟨2,u,b,z⟩:Sp)) (ho:s.ops+1<=1000000000000):
    Calls Tryz.prog 418 #[↑x.l,.int .i64 i] w (dy w a g 2 x s S i ⟨2,u,b,z⟩):=by
  have hi:i<x.n:=by have:=(List.getElem?_eq_some_iff.1 hp).1;rw[h.n]at this;exact this
  have a0:=h.sp.cell hp 0 _ rfl;simp only[Nat.add_zero]at a0;have t1:=h.t1;obtain⟨ar',har⟩:∃q,q=ae s ((x.t:Int)+1):=⟨_,rfl⟩;obtain⟨v,hv⟩:∃v,v=ldW s.W ((x.t:Int)+1):=⟨_,rfl⟩;have HX:Kq (bG 2 x.t x.m s i ⟨2,u,b,z⟩=(ar',⟨if v=u then 10 else 2,u,b,z⟩)):=qh Rc;have HO0:=(λW (k:KIs W a g 2 x s S)=>aC k.ar ((x.t:Int)+1) ho);rw[<-har,<-hv]at HO0;have e1:IntKind.i64.wrap ((x.t:Int)+1)=(x.t:Int)+1:=IntWalk.i64_in _ QX;have HO:=qh HO0;have HC:Kq (∀W s (S':List Sp) (c:Int),KIs W a g 2 x s S'->S'[i]? =some (⟨c,u,b,z⟩:Sp)->W.cell? ⟨x.l,1,none⟩=some ↑a/\W.cell? ⟨x.l,2,none⟩=some (.int .i64 x.t)/\W.cell? ⟨x.q,i*4+1,none⟩=some (.int .i64 u)):=qh (λW s S' c k hp=>⟨k.ti.1,k.ti.2,k.sp.cell hp 1 _ rfl⟩);have HP:=qh hp;have K0:=qh h;have K1:=qh (h.below ((Below.refl _ w).drew));clear HO0 h hp har hv;cases hc:(v==u)
  · go_enter Tryz.func418,Tryz.ntmps418;go_wp2_with (go_at_call 419;refine(ed _ _).mono ?_;rintro e w' ⟨rfl,rfl⟩);go_wp2_with (go_at_call 423;refine(bC .ticket K0.o i hi).mono ?_;rintro e w' ⟨rfl,rfl⟩);refine wp_region_held_drew (S:=(λW=>W.cell? ⟨x.l,1,none⟩=some ↑a/\W.cell? ⟨x.l,2,none⟩=some (.int .i64 x.t)/\W.cell? ⟨x.q,i*4+1,none⟩=some (.int .i64 u))) Q0 (by exact HC.o _ _ _ _ K1.o HP.o) (λhHeld=>?_);refine tk 0 ?_;refine tk 1 ?_;refine tk 2 ?_;refine tk 3 ?_;refine tk 4 ?_;refine tk 5 ?_;refine tk 6 ?_;refine tk 7 ?_;refine tk 8 ?_;refine tk 10 ?_;refine tk 11 ?_;refine tk 12 ?_;refine tk 13 ?_;refine wpAnyH_ready (rs:=[9]) Q0 QY ?_;refine AllReadyH.cons rfl (λK hK=>?_) AllReadyH.nil;go_simp;go_at_call 173;refine(HO.o _ K1.o).mono ?_;rintro en w3 ⟨rfl,a3,t3⟩;have K2:=qh (K1.o.op t3 a3);have T2:=qh (((aa.refl [a,g,x.q] w).drew).trans (aI t3));clear a3 t3;refine hK.out _ _ ?_ (λhHeld=>?_);· exact HC.o _ _ _ _ K2.o HP.o
    clear hK K;try simp only[Act.put,List.setIfInBounds_toArray,List.set_cons_zero,List.set_cons_succ,List.getElem_toArray,List.getElem_cons_zero,List.getElem_cons_succ]
    refine tk 14 ?_;refine tk 15 ?_;refine tk 16 ?_;refine tk 17 ?_;refine tk 18 ?_;refine tk 19 ?_;refine tk 20 ?_;refine tk 21 ?_;refine tk 22 ?_;refine wpAnyH_done Q0 ?_ _;go_wp2;go_ret;rw[dy,HX.o];rw[if_neg Q8,bX HP.o];exact⟨rfl,K2.o,T2.o⟩
  · go_enter Tryz.func418,Tryz.ntmps418;go_wp2_with (go_at_call 419;refine(ed _ _).mono ?_;rintro e w' ⟨rfl,rfl⟩);go_wp2_with (go_at_call 423;refine(bC .ticket K0.o i hi).mono ?_;rintro e w' ⟨rfl,rfl⟩);first
    | (go_region_held3 (λW=>W.cell? ⟨x.l,1,none⟩=some ↑a/\W.cell? ⟨x.l,2,none⟩=some (.int .i64 x.t)/\W.cell? ⟨x.q,i*4+1,none⟩=some (.int .i64 u))
        (first|with_reducible exact HC.o _ _ _ _ K1.o HP.o|with_reducible exact HC.o _ _ _ _ K2.o HP.o|with_reducible exact HC.o _ _ _ _ K4.o.1 (au HP.o _))
        (first
          | (go_at_call 173;go_loud (refine(HO.o _ K1.o).mono ?_);rintro en w3 ⟨rfl,a3,t3⟩;have K2:=qh (K1.o.op t3 a3);have T2:=qh (((aa.refl [a,g,x.q] w).drew).trans (aI t3));have HT:=qh (jd i _ _ HP.o (by rw[bX HP.o];exact K2.o) 10);clear a3 t3)
          | (go_at_call 421;go_loud (refine HT.o.mono ?_);rintro en w4 ⟨rfl,k4,t4⟩;have K4:=qh (And.intro k4 t4);clear k4 t4)))
    | fail "held"
    all_goals go_wp2;go_ret;rw[dy,HX.o];rw[if_pos Q8];exact⟨rfl,K4.o.1,T2.o.trans (aG K4.o.2)⟩
theorem sS (h:KIs w a g 2 x s S) (i:Nat) (u b z:Int) (hp:S[i]? =some (⟨11,u,b,z⟩:Sp)) (ho:s.ops+1<=1000000000000) (hu0:-10<=u) (hu1:u<=10000000000000):
    Calls Tryz.prog 418 #[↑x.l,.int .i64 i] w (dy w a g 2 x s S i ⟨11,u,b,z⟩):=by
  have hi:i<x.n:=by have:=(List.getElem?_eq_some_iff.1 hp).1;rw[h.n]at this;exact this
  have a0:=h.sp.cell hp 0 _ rfl;simp only[Nat.add_zero]at a0;have t1:=h.t1;obtain⟨ar',har⟩:∃q,q=ac s ((x.t:Int)+1) (u+1):=⟨_,rfl⟩;have HX:Kq (bG 2 x.t x.m s i ⟨11,u,b,z⟩=(ar',⟨0,u,b,z⟩)):=qh Rl;have HO0:=(λW (k:KIs W a g 2 x s S)=>am k.ar ((x.t:Int)+1) (u+1) ho);rw[<-har]at HO0;have e1:IntKind.i64.wrap ((x.t:Int)+1)=(x.t:Int)+1:=IntWalk.i64_in _ QX;have e2:IntKind.i64.wrap (u+1)=u+1:=IntWalk.i64_in _ QX;have HO:=qh HO0;have HC:Kq (∀W s (S':List Sp) (c:Int),KIs W a g 2 x s S'->S'[i]? =some (⟨c,u,b,z⟩:Sp)->W.cell? ⟨x.l,1,none⟩=some ↑a/\W.cell? ⟨x.l,2,none⟩=some (.int .i64 x.t)/\W.cell? ⟨x.q,i*4+1,none⟩=some (.int .i64 u)):=qh (λW s S' c k hp=>⟨k.ti.1,k.ti.2,k.sp.cell hp 1 _ rfl⟩);have HP:=qh hp;have K0:=qh h;have K1:=qh (h.below ((Below.refl _ w).drew));clear HO0 h hp har;go_enter Tryz.func418,Tryz.ntmps418;go_wp2_with (go_at_call 419;refine(ed _ _).mono ?_;rintro e w' ⟨rfl,rfl⟩);go_wp2_with (go_at_call 423;refine(bC .ticket K0.o i hi).mono ?_;rintro e w' ⟨rfl,rfl⟩)
  go_region_held3 (λW=>W.cell? ⟨x.l,1,none⟩=some ↑a/\W.cell? ⟨x.l,2,none⟩=some (.int .i64 x.t)/\W.cell? ⟨x.q,i*4+1,none⟩=some (.int .i64 u))
    (first|with_reducible exact HC.o _ _ _ _ K1.o HP.o|with_reducible exact HC.o _ _ _ _ K2.o HP.o)
    (first
      | (go_at_call 177;go_loud (refine(HO.o _ K1.o).mono ?_);rintro en w3 ⟨rfl,a3,t3⟩;have K2:=qh (K1.o.op t3 a3);have T2:=qh (((aa.refl [a,g,x.q] w).drew).trans (aI t3));clear a3 t3))
  all_goals have HT:=qh (jd i _ _ HP.o (by rw[bX HP.o];exact K2.o) 0);go_wp2_with (go_at_call 421;refine HT.o.mono ?_;rintro e w' ⟨rfl,k4,t4⟩;have K4:=qh (And.intro k4 t4);clear k4 t4);go_ret;rw[dy,HX.o];exact⟨rfl,K4.o.1,T2.o.trans (aG K4.o.2)⟩
theorem oF (h:KIs w a g 2 x s S) (i:Nat) (p:Sp) (hp:S[i]? =some p) (h0:p.pc=0\/p.pc=10):
    Calls Tryz.prog 418 #[↑x.l,.int .i64 i] w (dy w a g 2 x s S i p):=by
  have hi:i<x.n:=by have:=(List.getElem?_eq_some_iff.1 hp).1;rw[h.n]at this;exact this
  obtain⟨c,u,b,z⟩:=p;have a0:=h.sp.cell hp 0 _ rfl;simp only[Nat.add_zero]at a0;have HP:=qh hp;have K0:=qh h;clear h hp;simp only at h0;rcases h0 with rfl|rfl
  all_goals go_enter Tryz.func418,Tryz.ntmps418;go_wp2_with (go_at_call 419;refine(ed _ _).mono ?_;rintro e w' ⟨rfl,rfl⟩);go_wp2_with (go_at_call 423;refine(bC .ticket K0.o i hi).mono ?_;rintro e w' ⟨rfl,rfl⟩);go_ret;refine⟨rfl,?_,aa.refl _ _⟩;have k:=K0.o;rw[<-bX HP.o]at k;exact k
theorem tx (h:KIs w a g 2 x s S) (i:Nat) (p:Sp) (hp:S[i]? =some p) (hpc:p.pc=10) (ho:s.ops+1<=1000000000000) (hu0:-10<=p.a) (hu1:p.a<=10000000000000):
    Calls Tryz.prog 413 #[↑x.l,.int .i64 i] w (pd w a g 2 x s S i p):=by
  obtain⟨c,u,b,z⟩:=p;simp only at hu0 hu1 hpc;subst hpc;obtain⟨ar',har⟩:∃q,q=ae s x.t:=⟨_,rfl⟩;obtain⟨v,hv⟩:∃v,v=ldW s.W x.t:=⟨_,rfl⟩;have HX:Kq (ch 2 x.t s i ⟨10,u,b,z⟩=(ar',decide (v=u+1))):=qh Rc;have HO0:=(λW (k:KIs W a g 2 x s S)=>aC k.ar x.t ho);rw[<-har,<-hv]at HO0;have e2:IntKind.i64.wrap (u+1)=u+1:=IntWalk.i64_in _ QX;have HO:=qh HO0;have HC:Kq (∀W s (S':List Sp) (c:Int),KIs W a g 2 x s S'->S'[i]? =some (⟨c,u,b,z⟩:Sp)->W.cell? ⟨x.l,1,none⟩=some ↑a/\W.cell? ⟨x.l,2,none⟩=some (.int .i64 x.t)/\W.cell? ⟨x.q,i*4+1,none⟩=some (.int .i64 u)):=qh (λW s S' c k hp=>⟨k.ti.1,k.ti.2,k.sp.cell hp 1 _ rfl⟩);have HA:=qh (pv h i _ hp 10);have HP:=qh hp;have K0:=qh h;have K1:=qh (h.below ((Below.refl _ w).drew));clear HO0 h hp har hv;rw[show(⟨10,u,b,z⟩:Sp).pc=10 from rfl,if_pos rfl]at HA;cases hd:(v==u+1)
  all_goals
    go_enter Tryz.func413,Tryz.ntmps413;go_wp2_with (go_at_call 419;refine(ed _ _).mono ?_;rintro e w' ⟨rfl,rfl⟩);go_wp2_with (go_at_call 420;refine HA.o.mono ?_;rintro e w' ⟨rfl,rfl⟩)
    go_region_held3 (λW=>W.cell? ⟨x.l,1,none⟩=some ↑a/\W.cell? ⟨x.l,2,none⟩=some (.int .i64 x.t)/\W.cell? ⟨x.q,i*4+1,none⟩=some (.int .i64 u))
      (first|with_reducible exact HC.o _ _ _ _ K1.o HP.o|with_reducible exact HC.o _ _ _ _ K2.o HP.o)
      (first
        | (go_at_call 173;go_loud (refine(HO.o _ K1.o).mono ?_);rintro en w3 ⟨rfl,a3,t3⟩;have K2:=qh (K1.o.op t3 a3);have T2:=qh (((aa.refl [a,g,x.q] w).drew).trans (aI t3));clear a3 t3))
  all_goals go_wp2;go_ret;rw[pd,HX.o];first| exact⟨by rw[decide_eq_true Rh];rfl,K2.o,T2.o⟩| exact⟨by rw[decide_eq_false Rh];rfl,K2.o,T2.o⟩
end
end
section
open Go.RowKit
section
variable{w w':World}{a g k:Nat}{x:Fx}{s:Ar}{S:List Sp}
theorem KIs.mi (h:KIs w a g 4 x s S):w.cell? x.l=some ↑a/\w.cell? ⟨x.l,1,none⟩=some (.int .i64 x.t):=⟨h.lk.cell 0,h.lk.cell 1⟩
theorem KIs.samS{i:Nat}{p:Sp}(h:KIs w a g k x s S)(hp:S[i]? =some p):KIs w a g k x s (S.set i p):=by rw[bX hp];exact h
theorem jy (h:KIs w a g 4 x s S)(y:Int)(hy:-10<=y/\y<=10000000000000):Calls Tryz.prog 442 #[↑x.l,.int .i64 y] w λe w'=>e= .returned (.int .i64 (mNx x.t y))/\w=w':=by have c1:=h.mi.2;have t1:=h.t1;have x1:IntKind.i64.wrap (2*y)=2*y:=IntWalk.i64_in _ QX;have x2:IntKind.i64.wrap ((x.t:Int)+2*y)=(x.t:Int)+2*y:=IntWalk.i64_in _ QX;have x3:IntKind.i64.wrap ((x.t:Int)+2*y-1)=(x.t:Int)+2*y-1:=IntWalk.i64_in _ QX;clear h;go_enter Tryz.func442,Tryz.ntmps442;exact gs
theorem oX (h:KIs w a g 4 x s S)(y:Int)(hy:-10<=y/\y<=10000000000000):Calls Tryz.prog 448 #[↑x.l,.int .i64 y] w λe w'=>e= .returned (.int .i64 (mWt x.t y))/\w=w':=by have c1:=h.mi.2;have t1:=h.t1;have x1:IntKind.i64.wrap (2*y)=2*y:=IntWalk.i64_in _ QX;have x2:IntKind.i64.wrap ((x.t:Int)+2*y)=(x.t:Int)+2*y:=IntWalk.i64_in _ QX;clear h;go_enter Tryz.func448,Tryz.ntmps448;exact gs
def k8 (w:World)(a g:Nat)(x:Fx)(S:List Sp)(i:Nat)(p:Sp)(r:Ar×Sp)(e:Ending)(w':World):Prop:=
 e= .returned (.int .i64 r.2.pc)/\KIs w' a g 4 x r.1 (S.set i {r.2 with pc:=p.pc})/\aa [a,g,x.q] w w'
theorem Gc (h:KIs w a g 4 x s S) (i:Nat) (hin:i<x.n) (u b z:Int) (hp:S[i]? =some (⟨1,u,b,z⟩:Sp)) (ho:s.ops+1<=1000000000000):
    Calls Tryz.prog 446 #[↑x.l,.pointer (some ⟨x.q,i*4,none⟩),.int .i64 ((i:Int)+1)] w (k8 w a g x S i (⟨1,u,b,z⟩:Sp) (eB x.t s ((i:Int)+1) (⟨1,u,b,z⟩:Sp))):=by
  have hn:=h.n32;have e0:=h.sp.cell hp 0 _ rfl;simp only[Nat.add_zero]at e0;obtain⟨ar',har⟩:∃q,q=ac s (mNx x.t ((i:Int)+1)) 0:=⟨_,rfl⟩;have HX:Kq (eB x.t s ((i:Int)+1) (⟨1,u,b,z⟩:Sp)=(ar',⟨2,u,b,z⟩)):=qh Rl;have HF:=qh (λW (k:KIs W a g 4 x s S)=>jy k ((i:Int)+1) QX);have HO0:=(λW (k:KIs W a g 4 x s S)=>am k.ar (mNx x.t ((i:Int)+1)) 0 ho);rw[<-har]at HO0;have HO:=qh HO0;have HC:=qh (λW s (S:List Sp) (k:KIs W a g 4 x s S) (hp:S[i]? =some (⟨1,u,b,z⟩:Sp))=>k.mi.1);have HP:=qh hp;have HL:=qh (show i<S.length by rw[h.n];exact hin);have K1:=qh (h.below ((Below.refl _ w).drew));clear HO0 h hp har;go_enter Tryz.func446,Tryz.ntmps446;go_wp2_with fail
  go_region_held3 (λW=>W.cell? x.l=some ↑a)
    (first|with_reducible exact HC.o _ _ _ K1.o HP.o|with_reducible exact HC.o _ _ _ K2.o HP.o)
    (first
      | (go_at_call 442;go_loud (refine(HF.o _ K1.o).mono ?_);rintro en w2 ⟨rfl,rfl⟩)
      | (go_at_call 177;go_loud (refine(HO.o _ K1.o).mono ?_);rintro en w3 ⟨rfl,a3,t3⟩;have K2:=qh (K1.o.op t3 a3);have T2:=qh (((aa.refl [a,g,x.q] w).drew).trans (aI t3));clear a3 t3))
  all_goals go_wp2;go_ret;rw[HX.o];exact⟨rfl,K2.o.samS HP.o,T2.o⟩
theorem Gd (h:KIs w a g 4 x s S) (i:Nat) (hin:i<x.n) (u b z:Int) (hp:S[i]? =some (⟨2,u,b,z⟩:Sp)) (ho:s.ops+1<=1000000000000):
    Calls Tryz.prog 446 #[↑x.l,.pointer (some ⟨x.q,i*4,none⟩),.int .i64 ((i:Int)+1)] w (k8 w a g x S i (⟨2,u,b,z⟩:Sp) (eB x.t s ((i:Int)+1) (⟨2,u,b,z⟩:Sp))):=by
  have hn:=h.n32;have e0:=h.sp.cell hp 0 _ rfl;simp only[Nat.add_zero]at e0;obtain⟨ar',har⟩:∃q,q=ac s (mWt x.t ((i:Int)+1)) 1:=⟨_,rfl⟩;have HX:Kq (eB x.t s ((i:Int)+1) (⟨2,u,b,z⟩:Sp)=(ar',⟨3,u,b,z⟩)):=qh Rl;have HF:=qh (λW (k:KIs W a g 4 x s S)=>oX k ((i:Int)+1) QX);have HO0:=(λW (k:KIs W a g 4 x s S)=>am k.ar (mWt x.t ((i:Int)+1)) 1 ho);rw[<-har]at HO0;have HO:=qh HO0;have HC:=qh (λW s (S:List Sp) (k:KIs W a g 4 x s S) (hp:S[i]? =some (⟨2,u,b,z⟩:Sp))=>k.mi.1);have HP:=qh hp;have HL:=qh (show i<S.length by rw[h.n];exact hin);have K1:=qh (h.below ((Below.refl _ w).drew));clear HO0 h hp har;go_enter Tryz.func446,Tryz.ntmps446;go_wp2_with fail
  go_region_held3 (λW=>W.cell? x.l=some ↑a)
    (first|with_reducible exact HC.o _ _ _ K1.o HP.o|with_reducible exact HC.o _ _ _ K2.o HP.o)
    (first
      | (go_at_call 448;go_loud (refine(HF.o _ K1.o).mono ?_);rintro en w2 ⟨rfl,rfl⟩)
      | (go_at_call 177;go_loud (refine(HO.o _ K1.o).mono ?_);rintro en w3 ⟨rfl,a3,t3⟩;have K2:=qh (K1.o.op t3 a3);have T2:=qh (((aa.refl [a,g,x.q] w).drew).trans (aI t3));clear a3 t3))
  all_goals go_wp2;go_ret;rw[HX.o];exact⟨rfl,K2.o.samS HP.o,T2.o⟩
theorem Gf (h:KIs w a g 4 x s S) (i:Nat) (hin:i<x.n) (u b z:Int) (hp:S[i]? =some (⟨4,u,b,z⟩:Sp)) (ho:s.ops+1<=1000000000000) (hu:-10<=u/\u<=10000000000000):
    Calls Tryz.prog 446 #[↑x.l,.pointer (some ⟨x.q,i*4,none⟩),.int .i64 ((i:Int)+1)] w (k8 w a g x S i (⟨4,u,b,z⟩:Sp) (eB x.t s ((i:Int)+1) (⟨4,u,b,z⟩:Sp))):=by
  have hn:=h.n32;have e0:=h.sp.cell hp 0 _ rfl;simp only[Nat.add_zero]at e0;obtain⟨ar',har⟩:∃q,q=ac s (mNx x.t u) ((i:Int)+1):=⟨_,rfl⟩;have HX:Kq (eB x.t s ((i:Int)+1) (⟨4,u,b,z⟩:Sp)=(ar',⟨5,u,b,z⟩)):=qh Rl;have HF:=qh (λW (k:KIs W a g 4 x s S)=>jy k u (by exact hu));have HO0:=(λW (k:KIs W a g 4 x s S)=>am k.ar (mNx x.t u) ((i:Int)+1) ho);rw[<-har]at HO0;have HO:=qh HO0;have HC:=qh (λW s (S:List Sp) (k:KIs W a g 4 x s S) (hp:S[i]? =some (⟨4,u,b,z⟩:Sp))=>(And.intro k.mi.1 (k.sp.cell hp 1 _ rfl)));have HP:=qh hp;have HL:=qh (show i<S.length by rw[h.n];exact hin);have K1:=qh (h.below ((Below.refl _ w).drew));clear HO0 h hp har;go_enter Tryz.func446,Tryz.ntmps446;go_wp2_with fail
  go_region_held3 (λW=>W.cell? x.l=some ↑a/\W.cell? ⟨x.q,i*4+1,none⟩=some (.int .i64 u))
    (first|with_reducible exact HC.o _ _ _ K1.o HP.o|with_reducible exact HC.o _ _ _ K2.o HP.o)
    (first
      | (go_at_call 442;go_loud (refine(HF.o _ K1.o).mono ?_);rintro en w2 ⟨rfl,rfl⟩)
      | (go_at_call 177;go_loud (refine(HO.o _ K1.o).mono ?_);rintro en w3 ⟨rfl,a3,t3⟩;have K2:=qh (K1.o.op t3 a3);have T2:=qh (((aa.refl [a,g,x.q] w).drew).trans (aI t3));clear a3 t3))
  all_goals go_wp2;go_ret;rw[HX.o];exact⟨rfl,K2.o.samS HP.o,T2.o⟩
theorem Ge (h:KIs w a g 4 x s S) (i:Nat) (hin:i<x.n) (u b z:Int) (hp:S[i]? =some (⟨3,u,b,z⟩:Sp)) (ho:s.ops+1<=1000000000000):
    Calls Tryz.prog 446 #[↑x.l,.pointer (some ⟨x.q,i*4,none⟩),.int .i64 ((i:Int)+1)] w (k8 w a g x S i (⟨3,u,b,z⟩:Sp) (eB x.t s ((i:Int)+1) (⟨3,u,b,z⟩:Sp))):=by
  have hn:=h.n32;have e0:=h.sp.cell hp 0 _ rfl;simp only[Nat.add_zero]at e0;obtain⟨ar',har⟩:∃q,q=bY s (x.t:Int) ((i:Int)+1):=⟨_,rfl⟩;obtain⟨v,hv⟩:∃v,v=ldW s.W (x.t:Int):=⟨_,rfl⟩;have HX:Kq (eB x.t s ((i:Int)+1) (⟨3,u,b,z⟩:Sp)=(ar',(⟨if v=0 then 10 else 4,v,b,z⟩:Sp))):=qh Rc;have HO0:=(λW (k:KIs W a g 4 x s S)=>ff k.ar (x.t:Int) ((i:Int)+1) ho);rw[<-har,<-hv]at HO0;have HO:=qh HO0;have HC:=qh (λW s (S:List Sp) (y:Int) (k:KIs W a g 4 x s S) (hp:S[i]? =some (⟨3,y,b,z⟩:Sp))=>(And.intro k.mi.1 k.mi.2));have HP:=qh hp;have HL:=qh (show i<S.length by rw[h.n];exact hin);have K1:=qh (h.below ((Below.refl _ w).drew));clear HO0 h hp har hv;cases hc:(v==0)
  all_goals
    go_enter Tryz.func446,Tryz.ntmps446;go_wp2_with fail
    go_region_held3 (λW=>W.cell? x.l=some ↑a/\W.cell? ⟨x.l,1,none⟩=some (.int .i64 x.t))
      (first|with_reducible exact HC.o _ _ _ _ K1.o HP.o|with_reducible exact HC.o _ _ _ _ K2.o HP.o|with_reducible exact HC3.o)
      (first
        | (go_at_call 271;go_loud (refine(HO.o _ K1.o).mono ?_);rintro en w3 ⟨rfl,a3,t3⟩;have K2:=qh (K1.o.op t3 a3);have T2:=qh (((aa.refl [a,g,x.q] w).drew).trans (aI t3));have K3:=qh (K2.o.put (p':=(⟨3,v,b,z⟩:Sp)) HP.o (j:=1) (u:= .int .i64 v) QZ rfl);have HC3:=qh (HC.o _ _ _ v K3.o (au HP.o _));have e1:=K2.o.sp.cell HP.o 1 _ rfl;have z1:=K2.o.sp.free (i*4+1);clear a3 t3))
  all_goals go_wp2;go_ret;rw[HX.o];first| (rw[if_pos Q8];exact⟨rfl,K3.o,T2.o.trans (aG (aU _ _ _))⟩)| (rw[if_neg Q8];exact⟨rfl,K3.o,T2.o.trans (aG (aU _ _ _))⟩)
theorem Gg (h:KIs w a g 4 x s S) (i:Nat) (hin:i<x.n) (u b z:Int) (hp:S[i]? =some (⟨5,u,b,z⟩:Sp)) (ho:s.ops+1<=1000000000000):
    Calls Tryz.prog 446 #[↑x.l,.pointer (some ⟨x.q,i*4,none⟩),.int .i64 ((i:Int)+1)] w (k8 w a g x S i (⟨5,u,b,z⟩:Sp) (eB x.t s ((i:Int)+1) (⟨5,u,b,z⟩:Sp))):=by
  have hn:=h.n32;have e0:=h.sp.cell hp 0 _ rfl;simp only[Nat.add_zero]at e0;obtain⟨ar',har⟩:∃q,q=ae s (mWt x.t ((i:Int)+1)):=⟨_,rfl⟩;obtain⟨v,hv⟩:∃v,v=ldW s.W (mWt x.t ((i:Int)+1)):=⟨_,rfl⟩;have HX:Kq (eB x.t s ((i:Int)+1) (⟨5,u,b,z⟩:Sp)=(ar',(⟨if v=0 then 10 else 5,u,b,z⟩:Sp))):=qh Rc;have HF:=qh (λW (k:KIs W a g 4 x s S)=>oX k ((i:Int)+1) QX);have HO0:=(λW (k:KIs W a g 4 x s S)=>aC k.ar (mWt x.t ((i:Int)+1)) ho);rw[<-har,<-hv]at HO0;have HO:=qh HO0;have HC:=qh (λW s (S:List Sp) (k:KIs W a g 4 x s S) (hp:S[i]? =some (⟨5,u,b,z⟩:Sp))=>k.mi.1);have HP:=qh hp;have HL:=qh (show i<S.length by rw[h.n];exact hin);have K1:=qh (h.below ((Below.refl _ w).drew));clear HO0 h hp har hv;cases hc:(v==0)
  all_goals
    go_enter Tryz.func446,Tryz.ntmps446;go_wp2_with fail
    go_region_held3 (λW=>W.cell? x.l=some ↑a)
      (first|with_reducible exact HC.o _ _ _ K1.o HP.o|with_reducible exact HC.o _ _ _ K2.o HP.o)
      (first
        | (go_at_call 448;go_loud (refine(HF.o _ K1.o).mono ?_);rintro en w2 ⟨rfl,rfl⟩)
        | (go_at_call 173;go_loud (refine(HO.o _ K1.o).mono ?_);rintro en w3 ⟨rfl,a3,t3⟩;have K2:=qh (K1.o.op t3 a3);have T2:=qh (((aa.refl [a,g,x.q] w).drew).trans (aI t3));clear a3 t3))
  all_goals go_wp2;go_ret;rw[HX.o];first| (rw[if_pos Q8];exact⟨rfl,K2.o.samS HP.o,T2.o⟩)| (rw[if_neg Q8];exact⟨rfl,K2.o.samS HP.o,T2.o⟩)
theorem CU (h:KIs w a g 4 x s S) (i:Nat) (hin:i<x.n) (u b z:Int) (hp:S[i]? =some (⟨12,u,b,z⟩:Sp)) (ho:s.ops+1<=1000000000000):
    Calls Tryz.prog 447 #[↑x.l,.pointer (some ⟨x.q,i*4,none⟩),.int .i64 ((i:Int)+1)] w (k8 w a g x S i (⟨12,u,b,z⟩:Sp) (dF x.t s ((i:Int)+1) (⟨12,u,b,z⟩:Sp))):=by
  have hn:=h.n32;have e0:=h.sp.cell hp 0 _ rfl;simp only[Nat.add_zero]at e0;obtain⟨ar',har⟩:∃q,q=dO s (x.t:Int) ((i:Int)+1) 0:=⟨_,rfl⟩;obtain⟨v,hv⟩:∃v,v=cl s (x.t:Int) ((i:Int)+1):=⟨_,rfl⟩;have HX:Kq (dF x.t s ((i:Int)+1) (⟨12,u,b,z⟩:Sp)=(ar',(⟨if v=true then 0 else 13,u,b,z⟩:Sp))):=qh Rc;have HO0:=(λW (k:KIs W a g 4 x s S)=>i1 k.ar (x.t:Int) ((i:Int)+1) 0 ho);rw[<-har,<-hv]at HO0;have HO:=qh HO0;have HC:=qh (λW s (S:List Sp) (k:KIs W a g 4 x s S) (hp:S[i]? =some (⟨12,u,b,z⟩:Sp))=>(And.intro k.mi.1 k.mi.2));have HP:=qh hp;have HL:=qh (show i<S.length by rw[h.n];exact hin);have K1:=qh (h.below ((Below.refl _ w).drew));clear HO0 h hp har hv;cases hc:v
  all_goals
    go_enter Tryz.func447,Tryz.ntmps447;go_wp2_with fail
    go_region_held3 (λW=>W.cell? x.l=some ↑a/\W.cell? ⟨x.l,1,none⟩=some (.int .i64 x.t))
      (first|with_reducible exact HC.o _ _ _ K1.o HP.o|with_reducible exact HC.o _ _ _ K2.o HP.o)
      (first
        | (go_at_call 272;go_loud (refine(HO.o _ K1.o).mono ?_);rintro en w3 ⟨rfl,a3,t3⟩;have K2:=qh (K1.o.op t3 a3);have T2:=qh (((aa.refl [a,g,x.q] w).drew).trans (aI t3));clear a3 t3))
  all_goals go_wp2;go_ret;rw[HX.o];first| (rw[if_pos Q8];exact⟨rfl,K2.o.samS HP.o,T2.o⟩)| (rw[if_neg Q8];exact⟨rfl,K2.o.samS HP.o,T2.o⟩)
theorem CW (h:KIs w a g 4 x s S) (i:Nat) (hin:i<x.n) (u b z:Int) (hp:S[i]? =some (⟨14,u,b,z⟩:Sp)) (ho:s.ops+1<=1000000000000) (hu:-10<=u/\u<=10000000000000):
    Calls Tryz.prog 447 #[↑x.l,.pointer (some ⟨x.q,i*4,none⟩),.int .i64 ((i:Int)+1)] w (k8 w a g x S i (⟨14,u,b,z⟩:Sp) (dF x.t s ((i:Int)+1) (⟨14,u,b,z⟩:Sp))):=by
  have hn:=h.n32;have e0:=h.sp.cell hp 0 _ rfl;simp only[Nat.add_zero]at e0;obtain⟨ar',har⟩:∃q,q=ac s (mWt x.t u) 0:=⟨_,rfl⟩;have HX:Kq (dF x.t s ((i:Int)+1) (⟨14,u,b,z⟩:Sp)=(ar',⟨0,u,b,z⟩)):=qh Rl;have HF:=qh (λW (k:KIs W a g 4 x s S)=>oX k u (by exact hu));have HO0:=(λW (k:KIs W a g 4 x s S)=>am k.ar (mWt x.t u) 0 ho);rw[<-har]at HO0;have HO:=qh HO0;have HC:=qh (λW s (S:List Sp) (k:KIs W a g 4 x s S) (hp:S[i]? =some (⟨14,u,b,z⟩:Sp))=>(And.intro k.mi.1 (k.sp.cell hp 1 _ rfl)));have HP:=qh hp;have HL:=qh (show i<S.length by rw[h.n];exact hin);have K1:=qh (h.below ((Below.refl _ w).drew));clear HO0 h hp har;go_enter Tryz.func447,Tryz.ntmps447;go_wp2_with fail
  go_region_held3 (λW=>W.cell? x.l=some ↑a/\W.cell? ⟨x.q,i*4+1,none⟩=some (.int .i64 u))
    (first|with_reducible exact HC.o _ _ _ K1.o HP.o|with_reducible exact HC.o _ _ _ K2.o HP.o)
    (first
      | (go_at_call 448;go_loud (refine(HF.o _ K1.o).mono ?_);rintro en w2 ⟨rfl,rfl⟩)
      | (go_at_call 177;go_loud (refine(HO.o _ K1.o).mono ?_);rintro en w3 ⟨rfl,a3,t3⟩;have K2:=qh (K1.o.op t3 a3);have T2:=qh (((aa.refl [a,g,x.q] w).drew).trans (aI t3));clear a3 t3))
  all_goals go_wp2;go_ret;rw[HX.o];exact⟨rfl,K2.o.samS HP.o,T2.o⟩
theorem CT (h:KIs w a g 4 x s S) (i:Nat) (hin:i<x.n) (u b z:Int) (hp:S[i]? =some (⟨11,u,b,z⟩:Sp)) (ho:s.ops+1<=1000000000000):
    Calls Tryz.prog 447 #[↑x.l,.pointer (some ⟨x.q,i*4,none⟩),.int .i64 ((i:Int)+1)] w (k8 w a g x S i (⟨11,u,b,z⟩:Sp) (dF x.t s ((i:Int)+1) (⟨11,u,b,z⟩:Sp))):=by
  have hn:=h.n32;have e0:=h.sp.cell hp 0 _ rfl;simp only[Nat.add_zero]at e0;obtain⟨ar',har⟩:∃q,q=ae s (mNx x.t ((i:Int)+1)):=⟨_,rfl⟩;obtain⟨v,hv⟩:∃v,v=ldW s.W (mNx x.t ((i:Int)+1)):=⟨_,rfl⟩;have HX:Kq (dF x.t s ((i:Int)+1) (⟨11,u,b,z⟩:Sp)=(ar',(⟨if v≠0 then 14 else 12,v,b,z⟩:Sp))):=qh Rc;have HF:=qh (λW (k:KIs W a g 4 x s S)=>jy k ((i:Int)+1) QX);have HO0:=(λW (k:KIs W a g 4 x s S)=>aC k.ar (mNx x.t ((i:Int)+1)) ho);rw[<-har,<-hv]at HO0;have HO:=qh HO0;have HC:=qh (λW s (S:List Sp) (y:Int) (k:KIs W a g 4 x s S) (hp:S[i]? =some (⟨11,y,b,z⟩:Sp))=>k.mi.1);have HP:=qh hp;have HL:=qh (show i<S.length by rw[h.n];exact hin);have K1:=qh (h.below ((Below.refl _ w).drew));clear HO0 h hp har hv;cases hc:(v !=0)
  all_goals
    go_enter Tryz.func447,Tryz.ntmps447;go_wp2_with fail
    go_region_held3 (λW=>W.cell? x.l=some ↑a)
      (first|with_reducible exact HC.o _ _ _ _ K1.o HP.o|with_reducible exact HC.o _ _ _ _ K2.o HP.o|with_reducible exact HC3.o)
      (first
        | (go_at_call 442;go_loud (refine(HF.o _ K1.o).mono ?_);rintro en w2 ⟨rfl,rfl⟩)
        | (go_at_call 173;go_loud (refine(HO.o _ K1.o).mono ?_);rintro en w3 ⟨rfl,a3,t3⟩;have K2:=qh (K1.o.op t3 a3);have T2:=qh (((aa.refl [a,g,x.q] w).drew).trans (aI t3));have K3:=qh (K2.o.put (p':=(⟨11,v,b,z⟩:Sp)) HP.o (j:=1) (u:= .int .i64 v) QZ rfl);have HC3:=qh (HC.o _ _ _ v K3.o (au HP.o _));have e1:=K2.o.sp.cell HP.o 1 _ rfl;have z1:=K2.o.sp.free (i*4+1);have e5:=K2.o.sp.cell HP.o 0 _ rfl;simp only[Nat.add_zero]at e5;clear a3 t3))
  all_goals go_wp2;go_ret;rw[HX.o];first| (rw[if_pos Q8];exact⟨rfl,K3.o,T2.o.trans (aG (aU _ _ _))⟩)| (rw[if_neg Q8];exact⟨rfl,K3.o,T2.o.trans (aG (aU _ _ _))⟩)
theorem CV (h:KIs w a g 4 x s S) (i:Nat) (hin:i<x.n) (u b z:Int) (hp:S[i]? =some (⟨13,u,b,z⟩:Sp)) (ho:s.ops+1<=1000000000000):
    Calls Tryz.prog 447 #[↑x.l,.pointer (some ⟨x.q,i*4,none⟩),.int .i64 ((i:Int)+1)] w (k8 w a g x S i (⟨13,u,b,z⟩:Sp) (dF x.t s ((i:Int)+1) (⟨13,u,b,z⟩:Sp))):=by
  have hn:=h.n32;have e0:=h.sp.cell hp 0 _ rfl;simp only[Nat.add_zero]at e0;obtain⟨ar',har⟩:∃q,q=ae s (mNx x.t ((i:Int)+1)):=⟨_,rfl⟩;obtain⟨v,hv⟩:∃v,v=ldW s.W (mNx x.t ((i:Int)+1)):=⟨_,rfl⟩;have HX:Kq (dF x.t s ((i:Int)+1) (⟨13,u,b,z⟩:Sp)=(ar',(⟨if v≠0 then 14 else 13,v,b,z⟩:Sp))):=qh Rc;have HF:=qh (λW (k:KIs W a g 4 x s S)=>jy k ((i:Int)+1) QX);have HO0:=(λW (k:KIs W a g 4 x s S)=>aC k.ar (mNx x.t ((i:Int)+1)) ho);rw[<-har,<-hv]at HO0;have HO:=qh HO0;have HC:=qh (λW s (S:List Sp) (y:Int) (k:KIs W a g 4 x s S) (hp:S[i]? =some (⟨13,y,b,z⟩:Sp))=>k.mi.1);have HP:=qh hp;have HL:=qh (show i<S.length by rw[h.n];exact hin);have K1:=qh (h.below ((Below.refl _ w).drew));clear HO0 h hp har hv;cases hc:(v !=0)
  all_goals
    go_enter Tryz.func447,Tryz.ntmps447;go_wp2_with fail
    go_region_held3 (λW=>W.cell? x.l=some ↑a)
      (first|with_reducible exact HC.o _ _ _ _ K1.o HP.o|with_reducible exact HC.o _ _ _ _ K2.o HP.o|with_reducible exact HC3.o)
      (first
        | (go_at_call 442;go_loud (refine(HF.o _ K1.o).mono ?_);rintro en w2 ⟨rfl,rfl⟩)
        | (go_at_call 173;go_loud (refine(HO.o _ K1.o).mono ?_);rintro en w3 ⟨rfl,a3,t3⟩;have K2:=qh (K1.o.op t3 a3);have T2:=qh (((aa.refl [a,g,x.q] w).drew).trans (aI t3));have K3:=qh (K2.o.put (p':=(⟨13,v,b,z⟩:Sp)) HP.o (j:=1) (u:= .int .i64 v) QZ rfl);have HC3:=qh (HC.o _ _ _ v K3.o (au HP.o _));have e1:=K2.o.sp.cell HP.o 1 _ rfl;have z1:=K2.o.sp.free (i*4+1);have e5:=K2.o.sp.cell HP.o 0 _ rfl;simp only[Nat.add_zero]at e5;clear a3 t3))
  all_goals go_wp2;go_ret;rw[HX.o];first| (rw[if_pos Q8];exact⟨rfl,K3.o,T2.o.trans (aG (aU _ _ _))⟩)| (rw[if_neg Q8];exact⟨rfl,K3.o,T2.o.trans (aG (aU _ _ _))⟩)
end
end
end Go.Proofs.YtglokdbiggbkjaaGreat
