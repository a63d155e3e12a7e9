/- Joined texts. -/
import Derived.Deep.AppendLies
import Derived.Deep.RegionHeld3
import Derived.BigRegion
import Derived.Handy
import Derived.Test.YtglokdbiggbkjaaGreatMgWorldAgain0
import Derived.Test.YtglokdbiggbkjaaGreatMgWorldAgain3
import Derived.Test.YtglokdbiggbkjaaGreatMgWorldAgain5
import Derived.Test.YtglokdbiggbkjaaGreatMgWorldAgain8
set_option linter.unusedVariables false
set_option linter.unusedSimpArgs false
set_option linter.defProp false
set_option maxRecDepth 100000
set_option maxHeartbeats 16000000
open Go.Proofs.Tryz
namespace Go.Proofs.YtglokdbiggbkjaaGreat
open Go.IntKind(i64)
open Go.Value(int bool slice agg tuple pointer)
open Go.Ending(returned)
open Go.Obj(cells)
variable{f1:FuncId}{w':World}{a q i n:Nat}{B:Int}{u:Value}
section
open Go.RowKit
variable{Q:Prop}
inductive FlG:Nat->FuncId->FuncId->FuncId->Prop
 |tas:FlG 1 408 411 409
 |ticket:FlG 2 424 423 422
 |parted:FlG 3 428 434 429
 |mcs:FlG 4 439 444 440
 |clh:FlG 5 452 456 453
inductive FlF:Nat->FuncId->FuncId->FuncId->FuncId->Prop
 |parted:FlF 3 434 433 426 427
 |mcs:FlF 4 444 443 437 438
 |clh:FlF 5 456 455 450 451
def FlF.g{k:Nat}{h H I:FuncId}(K:FlF k f1 h H I):∃a b,FlG k a f1 b:=by cases K<;>exact⟨_,_,by constructor⟩
section
variable{w:World}{g:Nat}{x:Fx}{s:Ar}{S:List Sp}{k:Nat}{f2 f3 f4:FuncId}
def slC(k:Nat):Nat:=if k=2 then 0 else if k<=3 then 3 else 2
def CJ(K:FlG k f1 f2 f3)(h:KIs w a g k x s S):∃c,Z w x.l c (slice (some ⟨x.q,0,none⟩) x.n x.cap)/\c=slC k:=by
 cases K;.exact⟨3,h.lk.cell 3,rfl⟩
 .exact⟨0,h.lk.cell 0,rfl⟩
 .exact⟨3,h.lk.cell 3,rfl⟩
 .exact⟨2,h.lk.cell 2,rfl⟩
 .exact⟨2,h.lk.cell 2,rfl⟩
def CK(K:FlG k f1 f2 f3)(h:KIs w a g k x s S):Calls prog f1 #[↑x.l] w λe w'=>e= returned (J x.n)/\w=w':=by
 obtain⟨c,c2,hc⟩:=CJ K h;clear h;cases K
 all_goals
  simp[slC]at hc;subst hc;first|go_enter func408,ntmps408|go_enter func424,ntmps424|go_enter func428,ntmps428|go_enter func439,ntmps439|go_enter func452,ntmps452
  go_wp2;go_ret;exact⟨rfl,rfl⟩
def bH(K:FlG k f1 f2 f3)(h:KIs w a g k x s S)(i:Nat)(hi:i<x.n):Calls prog f2 #[↑x.l,J i] w λe w'=>e= returned (pointer (some ⟨x.q,i*4,none⟩))/\w=w':=by
 obtain⟨c,c2,hc⟩:=CJ K h;have I:=h.n32;have t2:¬(i:Int)<0:=by omega
 have O:¬((x.n:Nat):Int)<=(i:Int):=by omega
 have H:=qh (CK K h);clear h;cases K
 all_goals
  simp[slC]at hc;subst hc;first|go_enter func411,ntmps411|go_enter func423,ntmps423|go_enter func434,ntmps434|go_enter func444,ntmps444|go_enter func456,ntmps456
  go_wp2_with (refine H.o.mono ?_;rintro e w' ⟨rfl,rfl⟩);go_ret;exact⟨by simp,rfl⟩
def ee(K:FlG k f1 f2 f3)(h:KIs w a g k x s S)(i:Nat)(p:Sp)(hp:S[i]? =some p):Calls prog f3 #[↑x.l,J i] w λe w'=>e= returned (aC p)/\Below w.heap.size w w':=by
 refine aiG ?_;intro hi;refine aiM ?_;intro a0 a1 a2 a3;have I:=h.sp.lt;have H:=qh (bH K (h.below ((Below.refl _ _).alloc (Nat.le_refl _) (cells #[J 0,J 0,J 0,J 0] 113))) i hi);clear h hp;cases K
 all_goals
  first|go_enter func409,ntmps409|go_enter func422,ntmps422|go_enter func429,ntmps429|go_enter func440,ntmps440|go_enter func453,ntmps453
  go_wp2_with (refine H.o.mono ?_;rintro e w' ⟨rfl,rfl⟩);exact bodyPost_ret (results_cell_row aht _ _ w.heap.size 113 _ (0,0) _ aht (heap_alloc_new w _) Tryz.underlying113 rfl ahs) rfl ⟨rfl,(Below.refl _ _).alloc (Nat.le_refl _) _⟩
def rO(K:FlF k f1 f2 f3 f4)(h:KIs w a g k x s S)(i:Nat)(p:Sp)(hp:S[i]? =some p)(I Y:Int):Calls prog f2 #[↑x.l,J i,J I,J Y] w λe w'=>e= returned (bool (decide (p.pc=I)))/\KIs w' a g k x s (if p.pc=I then S.set i {p with pc:=Y} else S)/\aa [x.q] w w':=by
 refine aiG ?_;intro hi;refine ajU ?_;intro a0;have f0:=h.sp.free (i*4);obtain⟨_,_,KG⟩:=K.g;have V:=qh (bH KG h i hi);have H:=qh h;have O:=qh hp;clear h hp KG;cases K
 all_goals
  cases hc:(p.pc !=I)
  .have e:p.pc=I:=(by simpa using hc);first|go_enter func433,ntmps433|go_enter func443,ntmps443|go_enter func455,ntmps455
   go_wp2_with (refine V.o.mono ?_;rintro e w' ⟨rfl,rfl⟩);go_ret;exact⟨by first|rfl|(rw[decide_eq_true e];rfl),by first|exact H.o.put0 O.o rfl|(rw[if_pos e];exact H.o.put0 O.o rfl),aV _ _ _⟩
  .have e:¬p.pc=I:=(by simpa using hc);first|go_enter func433,ntmps433|go_enter func443,ntmps443|go_enter func455,ntmps455
   go_wp2_with (refine V.o.mono ?_;rintro e w' ⟨rfl,rfl⟩);go_ret;exact⟨by first|rfl|(rw[decide_eq_false e];rfl),by first|exact H.o|(rw[if_neg e];exact H.o),aa.refl _ _⟩
def nz(h:Q:=by
    refine⟨rfl,?_,HK.o.2⟩
    have k1:=HK.o.1
    first
      | unfold askK
      | unfold bm
    split
    . rename_i e
      rw[if_pos e]at k1
      exact k1
    . rename_i e
      rw[if_neg e]at k1
      rw[cf HP.o]
      exact k1):Q:=h
def uy(K:FlF k f1 f2 f3 f4)(h:KIs w a g k x s S)(i:Nat)(p:Sp)(H:S[i]? =some p):Calls prog f3 #[↑x.l,J i] w λe w'=>e= returned (bool (decide (p.pc=0)))/\KIs w' a g k x s (S.set i (askK k p))/\aa [x.q] w w':=by
 have I:=qh (rO K h i p H 0 1);have HP:=qh H;clear h H;cases K
 all_goals
  first|go_enter func426,ntmps426|go_enter func437,ntmps437|go_enter func450,ntmps450
  go_wp2_with (refine I.o.mono ?_;rintro e w' ⟨rfl,k1,t1⟩;have HK:=qh (And.intro k1 t1);clear k1 t1);go_ret;exact nz
def oH(K:FlF k f1 f2 f3 f4)(h:KIs w a g k x s S)(i:Nat)(p:Sp)(H:S[i]? =some p):Calls prog f4 #[↑x.l,J i] w λe w'=>e= returned (bool (decide (p.pc=10)))/\KIs w' a g k x s (S.set i (bm p))/\aa [x.q] w w':=by
 have I:=qh (rO K h i p H 10 11);have HP:=qh H;clear h H;cases K
 all_goals
  first|go_enter func427,ntmps427|go_enter func438,ntmps438|go_enter func451,ntmps451
  go_wp2_with (refine I.o.mono ?_;rintro e w' ⟨rfl,k1,t1⟩;have HK:=qh (And.intro k1 t1);clear k1 t1);go_ret;exact nz
def Df(h:KIs w a g 1 x s S)(i:Nat)(p:Sp)(hp:S[i]? =some p):E 406 #[↑x.l,J i] w λe w'=>e= returned (bool (decide (p.pc=0)))/\KIs w' a g 1 x s (S.set i (askK 1 p))/\aa [x.q] w w':=by
 refine aiG ?_;intro hi;refine ajU ?_;intro a0;have a1:=h.sp.cell hp 1 _ rfl;have f0:=h.sp.free (i*4);have f1:=h.sp.free (i*4+1);have H:=qh h;have I:=qh hp;clear h hp;cases hc:(p.pc !=0)
 .have e:p.pc=0:=by simpa using hc
  go_enter func406,ntmps406;go_wp2_with (go_at_call 411;refine(bH .tas H.o i hi).mono ?_;rintro e w' ⟨rfl,rfl⟩);go_ret;have k1:=(H.o.put0 I.o (p':={p with pc:=1}) rfl).put (au I.o _) (j:=1) (p':={p with pc:=1,a:=1}) ahr rfl;try rw[dY]at k1
  refine⟨by first|rfl|(rw[decide_eq_true e];rfl),?_,(aV _ _ _).trans (aV _ _ _)⟩;unfold askK;rw[if_pos e];exact k1
 .have e:¬p.pc=0:=by simpa using hc
  go_enter func406,ntmps406;go_wp2_with (go_at_call 411;refine(bH .tas H.o i hi).mono ?_;rintro e w' ⟨rfl,rfl⟩);go_ret;refine⟨by first|rfl|(rw[decide_eq_false e];rfl),?_,aa.refl _ _⟩;unfold askK;rw[if_neg e,cf I.o];exact H.o
def yH(h:KIs w a g 1 x s S)(i:Nat)(p:Sp)(hp:S[i]? =some p):E 407 #[↑x.l,J i] w λe w'=>e= returned (bool (decide (p.pc=10)))/\KIs w' a g 1 x s (S.set i (bm p))/\aa [x.q] w w':=by
 refine aiG ?_;intro hi;refine ajU ?_;intro a0;have a1:=h.sp.cell hp 1 _ rfl;have f0:=h.sp.free (i*4);have f1:=h.sp.free (i*4+1);have H:=qh h;have I:=qh hp;clear h hp;cases hc:(p.pc !=10)
 .have e:p.pc=10:=by simpa using hc
  go_enter func407,ntmps407;go_wp2_with (go_at_call 411;refine(bH .tas H.o i hi).mono ?_;rintro e w' ⟨rfl,rfl⟩);go_ret;have k1:=H.o.put0 I.o (p':={p with pc:=11}) rfl;try rw[dY]at k1
  refine⟨by first|rfl|(rw[decide_eq_true e];rfl),?_,aV _ _ _⟩;unfold bm;rw[if_pos e];exact k1
 .have e:¬p.pc=10:=by simpa using hc
  go_enter func407,ntmps407;go_wp2_with (go_at_call 411;refine(bH .tas H.o i hi).mono ?_;rintro e w' ⟨rfl,rfl⟩);go_ret;refine⟨by first|rfl|(rw[decide_eq_false e];rfl),?_,aa.refl _ _⟩;unfold bm;rw[if_neg e,cf I.o];exact H.o
def pX(h:KIs w a g 2 x s S)(i:Nat)(p:Sp)(hp:S[i]? =some p)(pc:Int):E 420 #[↑x.l,J i,J pc] w λe w'=>e= returned (.pointer (if p.pc=pc then some ⟨x.q,i*4,none⟩else none))/\w=w':=by
 refine aiG ?_;intro hi;refine ajU ?_;intro a0;have H:=qh h;clear h hp;cases hc:(p.pc !=pc)
 .have e:p.pc=pc:=by simpa using hc
  go_enter func420,ntmps420;go_wp2_with (go_at_call 423;refine(bH .ticket H.o i hi).mono ?_;rintro e w' ⟨rfl,rfl⟩);go_ret;exact⟨by first|rfl|(rw[if_pos e];rfl),rfl⟩
 .have e:¬p.pc=pc:=by simpa using hc
  go_enter func420,ntmps420;go_wp2_with (go_at_call 423;refine(bH .ticket H.o i hi).mono ?_;rintro e w' ⟨rfl,rfl⟩);go_ret;exact⟨by first|rfl|(rw[if_neg e];rfl),rfl⟩
def j6(h:KIs w a g 2 x s S)(i:Nat)(p:Sp)(hp:S[i]? =some p)(I V:Int):E 421 #[↑x.l,J i,J I,J V] w λe w'=>e= returned (bool (decide (p.pc=I)))/\KIs w' a g 2 x s (if p.pc=I then S.set i {p with pc:=V} else S)/\aa [x.q] w w':=by
 have f0:=h.sp.free (i*4);refine ajU ?_;intro a0;have O:=qh (pX h i p hp I);have H:=qh h;have Y:=qh hp;clear h hp;by_cases e:p.pc=I;.rw[if_pos e]at O;rw[decide_eq_true e,if_pos e];clear e;go_enter func421,ntmps421;go_wp2_with (go_at_call 420;refine O.o.mono ?_;rintro e w' ⟨rfl,rfl⟩);go_ret;exact⟨rfl,H.o.put0 Y.o rfl,aV _ _ _⟩
 .rw[if_neg e]at O;rw[decide_eq_false e,if_neg e];clear e;go_enter func421,ntmps421;go_wp2_with (go_at_call 420;refine O.o.mono ?_;rintro e w' ⟨rfl,rfl⟩);go_ret;exact aaE
def eh(w:World)(l:Nat):E 419 #[↑l] w λe w'=>e= .returned ↑l/\w=w':=by go_enter func419,ntmps419;exact aab
def uz(h:KIs w a g 2 x s S)(i:Nat)(p:Sp)(H:S[i]? =some p):E 414 #[↑x.l,J i] w λe w'=>e= returned (bool (decide (p.pc=0)))/\KIs w' a g 2 x s (S.set i (askK 2 p))/\aa [x.q] w w':=by have HT:=qh (j6 h i p H 0 1);have HP:=qh H;clear h H;go_enter func414,ntmps414;exact aaF
def q7(h:KIs w a g 2 x s S)(i:Nat)(p:Sp)(H:S[i]? =some p):E 415 #[↑x.l,J i] w λe w'=>e= returned (bool (decide (p.pc=10)))/\KIs w' a g 2 x s (S.set i (bm p))/\aa [x.q] w w':=by have HT:=qh (j6 h i p H 10 11);have HP:=qh H;clear h H;go_enter func415,ntmps415;exact aaF
def CY(h:Q:=by
    rintro e w' ⟨rfl,k,t⟩
    rw[if_pos rfl,dY]at k
    exact⟨by rw[decide_eq_true rfl],k,t⟩):Q:=h
def j5(K:FlF k f1 f2 f3 f4)(i:Nat)(p0 p:Sp)(I:S[i]? =some p0)(h:KIs w a g k x s (S.set i p))(H:Int):Calls prog f2 #[↑x.l,J i,J p.pc,J H] w λe w'=>e= returned (bool true)/\KIs w' a g k x s (S.set i {p with pc:=H})/\aa [x.q] w w':=by refine(rO K h i p (au I p) p.pc H).mono ?_;exact CY
def jp(i:Nat)(p0 p:Sp)(I:S[i]? =some p0)(h:KIs w a g 2 x s (S.set i p))(H:Int):E 421 #[↑x.l,J i,J p.pc,J H] w λe w'=>e= returned (bool true)/\KIs w' a g 2 x s (S.set i {p with pc:=H})/\aa [x.q] w w':=by refine(j6 h i p (au I p) p.pc H).mono ?_;exact CY
end
end
section
open Go.RowKit
section
variable{w:World}{g k:Nat}{x:Fx}{s:Ar}{S:List Sp}
def dF(w:World)(a g k:Nat)(x:Fx)(s:Ar)(S:List Sp)(i:Nat)(p:Sp)(e:Ending)(w':World):Prop:=
 e= returned (bool (bo p (bK k x.t x.m s i p).2))/\KIs w' a g k x (bK k x.t x.m s i p).1 (S.set i (bK k x.t x.m s i p).2)/\aa [a,g,x.q] w w'
def pM(w:World)(a g k:Nat)(x:Fx)(s:Ar)(S:List Sp)(i:Nat)(p:Sp)(e:Ending)(w':World):Prop:=
 e= returned (bool (cy k x.t s i p).2)/\KIs w' a g k x (cy k x.t s i p).1 S/\aa [a,g,x.q] w w'
def aJ(h:aa [a,g] w w'):aa [a,g,q] w w':=h.mono ahq
def aH(h:aa [q] w w'):aa [a,g,q] w w':=h.mono ahq
def KIs.ti(h:KIs w a g 2 x s S):Z w x.l 1 ↑a/\Z w x.l 2 (J x.t):=⟨h.lk.cell 1,h.lk.cell 2⟩
def wB(h:KIs w a g 2 x s S)(i:Nat)(u b z:Int)(hp:S[i]? =some (⟨1,u,b,z⟩:Sp))(Y:s.ops+1<=1000000000000)(hw:inR s.W x.t=true)(Km:0<=ldW s.W x.t)(P6:ldW s.W x.t<=10000000000000):E 418 #[↑x.l,J i] w (dF w a g 2 x s S i ⟨1,u,b,z⟩):=by
  refine aiG ?_;intro hi;refine ajU ?_;intro a0;obtain⟨ab,hV⟩:=LE (addA s x.t 1);obtain⟨v,O⟩:=LE (ldW s.W x.t);have HX:Kq (bK 2 x.t x.m s i ⟨1,u,b,z⟩=(ab,⟨2,v,b,z⟩)):=qh ahB;have I:=(λW (k:KIs W a g 2 x s S)=>ie k.ar x.t 1 Y);rw[if_pos hw,<-hV,<-O]at I;rw[<-O]at Km P6;have e1:IntKind.i64.wrap (v+1)=v+1:=IntWalk.i64_in _ ahp;have e2:IntKind.i64.wrap v=v:=IntWalk.i64_in _ ahp;rw[e1]at I;have HO:=qh I;refine ajx ?_;intro HP K0 K1;clear I h hp hV O e1;go_enter func418,ntmps418;go_wp2_with (go_at_call 419;refine(eh _ _).mono ?_;rintro e w' ⟨rfl,rfl⟩);go_wp2_with (go_at_call 423;refine(bH .ticket K0.o i hi).mono ?_;rintro e w' ⟨rfl,rfl⟩)
  go_region_held3 (λW=>Z W x.l 1 ↑a/\Z W x.l 2 (J x.t))
    (first|with_reducible exact K1.o.ti|with_reducible exact H.o.ti|with_reducible exact K3.o.ti)
    (first
      | (go_at_call 298;go_loud (refine Pi (HO.o _ K1.o) λw3 V=>?_);have H:=qh (K1.o.op V.o.2 V.o.1);have T2:=qh (((aa.refl [a,g,x.q] w).drew).trans (aJ V.o.2));have K3:=qh (H.o.put (p':=(⟨1,v,b,z⟩:Sp)) HP.o (j:=1) (u:= J v) ahr rfl);have e4:=H.o.sp.cell HP.o 1 _ rfl;have z1:=H.o.sp.free (i*4+1)))
  all_goals have HT:=qh (jp i _ _ HP.o K3.o 2);go_wp2_with (go_at_call 421;refine HT.o.mono ?_;rintro e w' ⟨rfl,k4,t4⟩;have K4:=qh (And.intro k4 t4);clear k4 t4);go_ret;rw[dF,HX.o];exact⟨rfl,K4.o.1,(T2.o.trans (aH (aV _ _ _))).trans (aH K4.o.2)⟩
def wC(h:KIs w a g 2 x s S)(i:Nat)(u b z:Int)(hp:S[i]? =some (⟨2,u,b,z⟩:Sp))(Y:s.ops+1<=1000000000000):E 418 #[↑x.l,J i] w (dF w a g 2 x s S i ⟨2,u,b,z⟩):=by
  refine aiG ?_;intro hi;refine ajU ?_;intro a0;have t1:=h.t1;obtain⟨ab,hV⟩:=LE (af s ((x.t:Int)+1));obtain⟨v,O⟩:=LE (ldW s.W ((x.t:Int)+1));have HX:Kq (bK 2 x.t x.m s i ⟨2,u,b,z⟩=(ab,⟨if v=u then 10 else 2,u,b,z⟩)):=qh ahB;have hv:=(λW (k:KIs W a g 2 x s S)=>aE k.ar ((x.t:Int)+1) Y);rw[<-hV,<-O]at hv;have e1:IntKind.i64.wrap ((x.t:Int)+1)=(x.t:Int)+1:=IntWalk.i64_in _ ahp;refine aiT ?_;intro HO HC;refine ajx ?_;intro HP K0 K1;clear hv h hp hV O;cases hc:(v==u)
  . go_enter func418,ntmps418;go_wp2_with (go_at_call 419;refine(eh _ _).mono ?_;rintro e w' ⟨rfl,rfl⟩);go_wp2_with (go_at_call 423;refine(bH .ticket K0.o i hi).mono ?_;rintro e w' ⟨rfl,rfl⟩);refine wp_region_held_drew (S:=(λW=>Z W x.l 1 ↑a/\Z W x.l 2 (J x.t)/\Z W x.q (i*4+1) (J u))) ahs (by exact HC.o _ _ _ _ K1.o HP.o) (λhHeld=>?_);refine aiW ?_;refine aj1 ?_;refine wpAnyH_ready (rs:=[9]) ahs ahq ?_;refine AllReadyH.cons rfl (λK hK=>?_) AllReadyH.nil;go_simp;go_at_call 173;refine Pi (HO.o _ K1.o) λw3 H=>?_;have I:=qh (K1.o.op H.o.2 H.o.1);have T2:=qh (((aa.refl [a,g,x.q] w).drew).trans (aJ H.o.2));refine hK.out _ _ ?_ (λhHeld=>?_);. exact HC.o _ _ _ _ I.o HP.o
    clear hK K;try simp only[Act.put,List.setIfInBounds_toArray,List.set_cons_zero,List.set_cons_succ,List.getElem_toArray,List.getElem_cons_zero,List.getElem_cons_succ]
    refine tk 14 ?_;refine tk 15 ?_;refine tk 16 ?_;refine tk 17 ?_;refine tk 18 ?_;refine tk 19 ?_;refine tk 20 ?_;refine tk 21 ?_;refine tk 22 ?_;refine wpAnyH_done ahs ?_ _;go_wp2;go_ret;rw[dF,HX.o];rw[if_neg ahw,cf HP.o];exact⟨rfl,I.o,T2.o⟩
  . go_enter func418,ntmps418;go_wp2_with (go_at_call 419;refine(eh _ _).mono ?_;rintro e w' ⟨rfl,rfl⟩);go_wp2_with (go_at_call 423;refine(bH .ticket K0.o i hi).mono ?_;rintro e w' ⟨rfl,rfl⟩);first
    | (go_region_held3 (λW=>Z W x.l 1 ↑a/\Z W x.l 2 (J x.t)/\Z W x.q (i*4+1) (J u))
        (first|with_reducible exact HC.o _ _ _ _ K1.o HP.o|with_reducible exact HC.o _ _ _ _ I.o HP.o|with_reducible exact HC.o _ _ _ _ K4.o.1 (au HP.o _))
        (first
          | (go_at_call 173;go_loud (refine Pi (HO.o _ K1.o) λw3 H=>?_);have I:=qh (K1.o.op H.o.2 H.o.1);have T2:=qh (((aa.refl [a,g,x.q] w).drew).trans (aJ H.o.2));have HT:=qh (jp i _ _ HP.o (by rw[cf HP.o];exact I.o) 10))
          | (go_at_call 421;go_loud (refine Pi HT.o λw4 K4=>?_))))
    | fail "held"
    all_goals go_wp2;go_ret;rw[dF,HX.o];rw[if_pos ahw];exact⟨rfl,K4.o.1,T2.o.trans (aH K4.o.2)⟩
def ue(h:KIs w a g 2 x s S)(i:Nat)(u b z:Int)(hp:S[i]? =some (⟨11,u,b,z⟩:Sp))(Y:s.ops+1<=1000000000000)(Uy:-10<=u)(O0:u<=10000000000000):E 418 #[↑x.l,J i] w (dF w a g 2 x s S i ⟨11,u,b,z⟩):=by
  refine aiG ?_;intro hi;refine ajU ?_;intro a0;have t1:=h.t1;obtain⟨I,hV⟩:=LE (ae s ((x.t:Int)+1) (u+1));have HX:Kq (bK 2 x.t x.m s i ⟨11,u,b,z⟩=(I,⟨0,u,b,z⟩)):=qh ahJ;have hv:=(λW (k:KIs W a g 2 x s S)=>an k.ar ((x.t:Int)+1) (u+1) Y);rw[<-hV]at hv;have e1:IntKind.i64.wrap ((x.t:Int)+1)=(x.t:Int)+1:=IntWalk.i64_in _ ahp;have e2:IntKind.i64.wrap (u+1)=u+1:=IntWalk.i64_in _ ahp;refine aiT ?_;intro HO HC;refine ajx ?_;intro HP K0 K1;clear hv h hp hV;go_enter func418,ntmps418;go_wp2_with (go_at_call 419;refine(eh _ _).mono ?_;rintro e w' ⟨rfl,rfl⟩);go_wp2_with (go_at_call 423;refine(bH .ticket K0.o i hi).mono ?_;rintro e w' ⟨rfl,rfl⟩)
  go_region_held3 (λW=>Z W x.l 1 ↑a/\Z W x.l 2 (J x.t)/\Z W x.q (i*4+1) (J u))
    (first|with_reducible exact HC.o _ _ _ _ K1.o HP.o|with_reducible exact HC.o _ _ _ _ O.o HP.o)
    (first
      | (go_at_call 177;go_loud (refine Pi (HO.o _ K1.o) λw3 H=>?_);have O:=qh (K1.o.op H.o.2 H.o.1);have T2:=qh (((aa.refl [a,g,x.q] w).drew).trans (aJ H.o.2))))
  all_goals have HT:=qh (jp i _ _ HP.o (by rw[cf HP.o];exact O.o) 0);go_wp2_with (go_at_call 421;refine HT.o.mono ?_;rintro e w' ⟨rfl,k4,t4⟩;have V:=qh (And.intro k4 t4);clear k4 t4);go_ret;rw[dF,HX.o];exact⟨rfl,V.o.1,T2.o.trans (aH V.o.2)⟩
def pv(h:KIs w a g 2 x s S)(i:Nat)(p:Sp)(hp:S[i]? =some p)(I:p.pc=0\/p.pc=10):E 418 #[↑x.l,J i] w (dF w a g 2 x s S i p):=by
  refine aiG ?_;intro hi;obtain⟨c,u,b,z⟩:=p;refine ajU ?_;intro a0;have O:=qh hp;have H:=qh h;clear h hp;simp only at I;rcases I with rfl|rfl
  all_goals go_enter func418,ntmps418;go_wp2_with (go_at_call 419;refine(eh _ _).mono ?_;rintro e w' ⟨rfl,rfl⟩);go_wp2_with (go_at_call 423;refine(bH .ticket H.o i hi).mono ?_;rintro e w' ⟨rfl,rfl⟩);go_ret;refine⟨rfl,?_,aa.refl _ _⟩;have k:=H.o;rw[<-cf O.o]at k;exact k
def ux(h:KIs w a g 2 x s S)(i:Nat)(p:Sp)(hp:S[i]? =some p)(JU:p.pc=10)(Y:s.ops+1<=1000000000000)(Uy:-10<=p.a)(O0:p.a<=10000000000000):E 413 #[↑x.l,J i] w (pM w a g 2 x s S i p):=by
  obtain⟨c,u,b,z⟩:=p;simp only at Uy O0 JU;subst JU;obtain⟨V,hV⟩:=LE (af s x.t);obtain⟨v,O⟩:=LE (ldW s.W x.t);have HX:Kq (cy 2 x.t s i ⟨10,u,b,z⟩=(V,decide (v=u+1))):=qh ahB;have hv:=(λW (k:KIs W a g 2 x s S)=>aE k.ar x.t Y);rw[<-hV,<-O]at hv;have e2:IntKind.i64.wrap (u+1)=u+1:=IntWalk.i64_in _ ahp;refine aiT ?_;intro HO HC;have HA:=qh (pX h i _ hp 10);refine ajx ?_;intro HP K0 K1;clear hv h hp hV O;rw[show(⟨10,u,b,z⟩:Sp).pc=10 from rfl,if_pos rfl]at HA;cases hd:(v==u+1)
  all_goals
    go_enter func413,ntmps413;go_wp2_with (go_at_call 419;refine(eh _ _).mono ?_;rintro e w' ⟨rfl,rfl⟩);go_wp2_with (go_at_call 420;refine HA.o.mono ?_;rintro e w' ⟨rfl,rfl⟩)
    go_region_held3 (λW=>Z W x.l 1 ↑a/\Z W x.l 2 (J x.t)/\Z W x.q (i*4+1) (J u))
      (first|with_reducible exact HC.o _ _ _ _ K1.o HP.o|with_reducible exact HC.o _ _ _ _ H.o HP.o)
      (first
        | (go_at_call 173;go_loud (refine Pi (HO.o _ K1.o) λw3 I=>?_);have H:=qh (K1.o.op I.o.2 I.o.1);have T2:=qh (((aa.refl [a,g,x.q] w).drew).trans (aJ I.o.2))))
  all_goals go_wp2;go_ret;rw[pM,HX.o];first| exact⟨by rw[decide_eq_true ahF];rfl,H.o,T2.o⟩| exact⟨by rw[decide_eq_false ahF];rfl,H.o,T2.o⟩
end
end
section
open Go.RowKit
section
variable{w:World}{g k:Nat}{x:Fx}{s:Ar}{S:List Sp}
def KIs.mi(h:KIs w a g 4 x s S):w.cell? x.l=some ↑a/\Z w x.l 1 (J x.t):=⟨h.lk.cell 0,h.lk.cell 1⟩
def KIs.samS{p:Sp}(h:KIs w a g k x s S)(H:S[i]? =some p):KIs w a g k x s (S.set i p):=by rw[cf H];exact h
def jM(h:KIs w a g 4 x s S)(y:Int)(H:-10<=y/\y<=10000000000000):E 442 #[↑x.l,J y] w λe w'=>e= returned (J (mNx x.t y))/\w=w':=by have c1:=h.mi.2;have t1:=h.t1;have I:IntKind.i64.wrap (2*y)=2*y:=IntWalk.i64_in _ ahp;have O:IntKind.i64.wrap ((x.t:Int)+2*y)=(x.t:Int)+2*y:=IntWalk.i64_in _ ahp;have V:IntKind.i64.wrap ((x.t:Int)+2*y-1)=(x.t:Int)+2*y-1:=IntWalk.i64_in _ ahp;clear h;go_enter func442,ntmps442;exact aab
def pI(h:KIs w a g 4 x s S)(y:Int)(H:-10<=y/\y<=10000000000000):E 448 #[↑x.l,J y] w λe w'=>e= returned (J (mWt x.t y))/\w=w':=by have c1:=h.mi.2;have t1:=h.t1;have I:IntKind.i64.wrap (2*y)=2*y:=IntWalk.i64_in _ ahp;have O:IntKind.i64.wrap ((x.t:Int)+2*y)=(x.t:Int)+2*y:=IntWalk.i64_in _ ahp;clear h;go_enter func448,ntmps448;exact aab
def lE(w:World)(a g:Nat)(x:Fx)(S:List Sp)(i:Nat)(p:Sp)(r:Ar×Sp)(e:Ending)(w':World):Prop:=
 e= returned (J r.2.pc)/\KIs w' a g 4 x r.1 (S.set i {r.2 with pc:=p.pc})/\aa [a,g,x.q] w w'
def If(h:KIs w a g 4 x s S)(i:Nat)(hin:i<x.n)(u b z:Int)(hp:S[i]? =some (⟨1,u,b,z⟩:Sp))(Y:s.ops+1<=1000000000000):E 446 #[↑x.l,pointer (some ⟨x.q,i*4,none⟩),J ((i:Int)+1)] w (lE w a g x S i (⟨1,u,b,z⟩:Sp) (eG x.t s ((i:Int)+1) (⟨1,u,b,z⟩:Sp))):=by
  refine ajL ?_;intro hn e0;obtain⟨O,hV⟩:=LE (ae s (mNx x.t ((i:Int)+1)) 0);have HX:Kq (eG x.t s ((i:Int)+1) (⟨1,u,b,z⟩:Sp)=(O,⟨2,u,b,z⟩)):=qh ahJ;have HF:=qh (λW (k:KIs W a g 4 x s S)=>jM k ((i:Int)+1) ahp);have I:=(λW (k:KIs W a g 4 x s S)=>an k.ar (mNx x.t ((i:Int)+1)) 0 Y);rw[<-hV]at I;have HO:=qh I;have V:=qh (λW s (S:List Sp) (k:KIs W a g 4 x s S) (hp:S[i]? =some (⟨1,u,b,z⟩:Sp))=>k.mi.1);refine aiS ?_;intro HP HL K1;clear I h hp hV;go_enter func446,ntmps446;go_wp2_with fail
  go_region_held3 (λW=>W.cell? x.l=some ↑a)
    (first|with_reducible exact V.o _ _ _ K1.o HP.o|with_reducible exact V.o _ _ _ K2.o HP.o)
    (first
      | (go_at_call 442;go_loud (refine LT (HF.o _ K1.o) ?_))
      | (go_at_call 177;go_loud (refine Pi (HO.o _ K1.o) λw3 H=>?_);have K2:=qh (K1.o.op H.o.2 H.o.1);have T2:=qh (((aa.refl [a,g,x.q] w).drew).trans (aJ H.o.2))))
  all_goals go_wp2;go_ret;rw[HX.o];exact⟨rfl,K2.o.samS HP.o,T2.o⟩
def Ig(h:KIs w a g 4 x s S)(i:Nat)(hin:i<x.n)(u b z:Int)(hp:S[i]? =some (⟨2,u,b,z⟩:Sp))(Y:s.ops+1<=1000000000000):E 446 #[↑x.l,pointer (some ⟨x.q,i*4,none⟩),J ((i:Int)+1)] w (lE w a g x S i (⟨2,u,b,z⟩:Sp) (eG x.t s ((i:Int)+1) (⟨2,u,b,z⟩:Sp))):=by
  refine ajL ?_;intro hn e0;obtain⟨O,hV⟩:=LE (ae s (mWt x.t ((i:Int)+1)) 1);have HX:Kq (eG x.t s ((i:Int)+1) (⟨2,u,b,z⟩:Sp)=(O,⟨3,u,b,z⟩)):=qh ahJ;have HF:=qh (λW (k:KIs W a g 4 x s S)=>pI k ((i:Int)+1) ahp);have I:=(λW (k:KIs W a g 4 x s S)=>an k.ar (mWt x.t ((i:Int)+1)) 1 Y);rw[<-hV]at I;have HO:=qh I;have V:=qh (λW s (S:List Sp) (k:KIs W a g 4 x s S) (hp:S[i]? =some (⟨2,u,b,z⟩:Sp))=>k.mi.1);refine aiS ?_;intro HP HL K1;clear I h hp hV;go_enter func446,ntmps446;go_wp2_with fail
  go_region_held3 (λW=>W.cell? x.l=some ↑a)
    (first|with_reducible exact V.o _ _ _ K1.o HP.o|with_reducible exact V.o _ _ _ K2.o HP.o)
    (first
      | (go_at_call 448;go_loud (refine LT (HF.o _ K1.o) ?_))
      | (go_at_call 177;go_loud (refine Pi (HO.o _ K1.o) λw3 H=>?_);have K2:=qh (K1.o.op H.o.2 H.o.1);have T2:=qh (((aa.refl [a,g,x.q] w).drew).trans (aJ H.o.2))))
  all_goals go_wp2;go_ret;rw[HX.o];exact⟨rfl,K2.o.samS HP.o,T2.o⟩
def Ii(h:KIs w a g 4 x s S)(i:Nat)(hin:i<x.n)(u b z:Int)(hp:S[i]? =some (⟨4,u,b,z⟩:Sp))(Y:s.ops+1<=1000000000000)(hu:-10<=u/\u<=10000000000000):E 446 #[↑x.l,pointer (some ⟨x.q,i*4,none⟩),J ((i:Int)+1)] w (lE w a g x S i (⟨4,u,b,z⟩:Sp) (eG x.t s ((i:Int)+1) (⟨4,u,b,z⟩:Sp))):=by
  refine ajL ?_;intro hn e0;obtain⟨O,hV⟩:=LE (ae s (mNx x.t u) ((i:Int)+1));have HX:Kq (eG x.t s ((i:Int)+1) (⟨4,u,b,z⟩:Sp)=(O,⟨5,u,b,z⟩)):=qh ahJ;have HF:=qh (λW (k:KIs W a g 4 x s S)=>jM k u (by exact hu));have I:=(λW (k:KIs W a g 4 x s S)=>an k.ar (mNx x.t u) ((i:Int)+1) Y);rw[<-hV]at I;have HO:=qh I;have V:=qh (λW s (S:List Sp) (k:KIs W a g 4 x s S) (hp:S[i]? =some (⟨4,u,b,z⟩:Sp))=>(And.intro k.mi.1 (k.sp.cell hp 1 _ rfl)));refine aiS ?_;intro HP HL K1;clear I h hp hV;go_enter func446,ntmps446;go_wp2_with fail
  go_region_held3 (λW=>W.cell? x.l=some ↑a/\Z W x.q (i*4+1) (J u))
    (first|with_reducible exact V.o _ _ _ K1.o HP.o|with_reducible exact V.o _ _ _ K2.o HP.o)
    (first
      | (go_at_call 442;go_loud (refine LT (HF.o _ K1.o) ?_))
      | (go_at_call 177;go_loud (refine Pi (HO.o _ K1.o) λw3 H=>?_);have K2:=qh (K1.o.op H.o.2 H.o.1);have T2:=qh (((aa.refl [a,g,x.q] w).drew).trans (aJ H.o.2))))
  all_goals go_wp2;go_ret;rw[HX.o];exact⟨rfl,K2.o.samS HP.o,T2.o⟩
def Ih(h:KIs w a g 4 x s S)(i:Nat)(hin:i<x.n)(u b z:Int)(hp:S[i]? =some (⟨3,u,b,z⟩:Sp))(Y:s.ops+1<=1000000000000):E 446 #[↑x.l,pointer (some ⟨x.q,i*4,none⟩),J ((i:Int)+1)] w (lE w a g x S i (⟨3,u,b,z⟩:Sp) (eG x.t s ((i:Int)+1) (⟨3,u,b,z⟩:Sp))):=by
  refine ajL ?_;intro hn e0;obtain⟨ab,hV⟩:=LE (ch s (x.t:Int) ((i:Int)+1));obtain⟨v,O⟩:=LE (ldW s.W (x.t:Int));have HX:Kq (eG x.t s ((i:Int)+1) (⟨3,u,b,z⟩:Sp)=(ab,(⟨if v=0 then 10 else 4,v,b,z⟩:Sp))):=qh ahB;have hv:=(λW (k:KIs W a g 4 x s S)=>fh k.ar (x.t:Int) ((i:Int)+1) Y);rw[<-hV,<-O]at hv;have HO:=qh hv;have I:=qh (λW s (S:List Sp) (y:Int) (k:KIs W a g 4 x s S) (hp:S[i]? =some (⟨3,y,b,z⟩:Sp))=>(And.intro k.mi.1 k.mi.2));refine aiS ?_;intro HP HL K1;clear hv h hp hV O;cases hc:(v==0)
  all_goals
    go_enter func446,ntmps446;go_wp2_with fail
    go_region_held3 (λW=>W.cell? x.l=some ↑a/\Z W x.l 1 (J x.t))
      (first|with_reducible exact I.o _ _ _ _ K1.o HP.o|with_reducible exact I.o _ _ _ _ H.o HP.o|with_reducible exact KL.o)
      (first
        | (go_at_call 271;go_loud (refine Pi (HO.o _ K1.o) λw3 a3=>?_);have H:=qh (K1.o.op a3.o.2 a3.o.1);have T2:=qh (((aa.refl [a,g,x.q] w).drew).trans (aJ a3.o.2));have V:=qh (H.o.put (p':=(⟨3,v,b,z⟩:Sp)) HP.o (j:=1) (u:= J v) ahr rfl);have KL:=qh (I.o _ _ _ v V.o (au HP.o _));have e1:=H.o.sp.cell HP.o 1 _ rfl;have z1:=H.o.sp.free (i*4+1)))
  all_goals go_wp2;go_ret;rw[HX.o];first| (rw[if_pos ahw];exact⟨rfl,V.o,T2.o.trans (aH (aV _ _ _))⟩)| (rw[if_neg ahw];exact⟨rfl,V.o,T2.o.trans (aH (aV _ _ _))⟩)
def Ij(h:KIs w a g 4 x s S)(i:Nat)(hin:i<x.n)(u b z:Int)(hp:S[i]? =some (⟨5,u,b,z⟩:Sp))(Y:s.ops+1<=1000000000000):E 446 #[↑x.l,pointer (some ⟨x.q,i*4,none⟩),J ((i:Int)+1)] w (lE w a g x S i (⟨5,u,b,z⟩:Sp) (eG x.t s ((i:Int)+1) (⟨5,u,b,z⟩:Sp))):=by
  refine ajL ?_;intro hn e0;obtain⟨ab,hV⟩:=LE (af s (mWt x.t ((i:Int)+1)));obtain⟨v,O⟩:=LE (ldW s.W (mWt x.t ((i:Int)+1)));have HX:Kq (eG x.t s ((i:Int)+1) (⟨5,u,b,z⟩:Sp)=(ab,(⟨if v=0 then 10 else 5,u,b,z⟩:Sp))):=qh ahB;have HF:=qh (λW (k:KIs W a g 4 x s S)=>pI k ((i:Int)+1) ahp);have V:=(λW (k:KIs W a g 4 x s S)=>aE k.ar (mWt x.t ((i:Int)+1)) Y);rw[<-hV,<-O]at V;have HO:=qh V;have HC:=qh (λW s (S:List Sp) (k:KIs W a g 4 x s S) (hp:S[i]? =some (⟨5,u,b,z⟩:Sp))=>k.mi.1);refine aiS ?_;intro HP HL K1;clear V h hp hV O;cases hc:(v==0)
  all_goals
    go_enter func446,ntmps446;go_wp2_with fail
    go_region_held3 (λW=>W.cell? x.l=some ↑a)
      (first|with_reducible exact HC.o _ _ _ K1.o HP.o|with_reducible exact HC.o _ _ _ H.o HP.o)
      (first
        | (go_at_call 448;go_loud (refine LT (HF.o _ K1.o) ?_))
        | (go_at_call 173;go_loud (refine Pi (HO.o _ K1.o) λw3 I=>?_);have H:=qh (K1.o.op I.o.2 I.o.1);have T2:=qh (((aa.refl [a,g,x.q] w).drew).trans (aJ I.o.2))))
  all_goals go_wp2;go_ret;rw[HX.o];first| (rw[if_pos ahw];exact⟨rfl,H.o.samS HP.o,T2.o⟩)| (rw[if_neg ahw];exact⟨rfl,H.o.samS HP.o,T2.o⟩)
def D7(h:KIs w a g 4 x s S)(i:Nat)(hin:i<x.n)(u b z:Int)(hp:S[i]? =some (⟨12,u,b,z⟩:Sp))(Y:s.ops+1<=1000000000000):E 447 #[↑x.l,pointer (some ⟨x.q,i*4,none⟩),J ((i:Int)+1)] w (lE w a g x S i (⟨12,u,b,z⟩:Sp) (dK x.t s ((i:Int)+1) (⟨12,u,b,z⟩:Sp))):=by
  refine ajL ?_;intro hn e0;obtain⟨ab,hV⟩:=LE (dU s (x.t:Int) ((i:Int)+1) 0);obtain⟨v,O⟩:=LE (cB s (x.t:Int) ((i:Int)+1));have HX:Kq (dK x.t s ((i:Int)+1) (⟨12,u,b,z⟩:Sp)=(ab,(⟨if v=true then 0 else 13,u,b,z⟩:Sp))):=qh ahB;have V:=(λW (k:KIs W a g 4 x s S)=>jc k.ar (x.t:Int) ((i:Int)+1) 0 Y);rw[<-hV,<-O]at V;have HO:=qh V;have HC:=qh (λW s (S:List Sp) (k:KIs W a g 4 x s S) (hp:S[i]? =some (⟨12,u,b,z⟩:Sp))=>(And.intro k.mi.1 k.mi.2));refine aiS ?_;intro HP HL K1;clear V h hp hV O;cases hc:v
  all_goals
    go_enter func447,ntmps447;go_wp2_with fail
    go_region_held3 (λW=>W.cell? x.l=some ↑a/\Z W x.l 1 (J x.t))
      (first|with_reducible exact HC.o _ _ _ K1.o HP.o|with_reducible exact HC.o _ _ _ H.o HP.o)
      (first
        | (go_at_call 272;go_loud (refine Pi (HO.o _ K1.o) λw3 I=>?_);have H:=qh (K1.o.op I.o.2 I.o.1);have T2:=qh (((aa.refl [a,g,x.q] w).drew).trans (aJ I.o.2))))
  all_goals go_wp2;go_ret;rw[HX.o];first| (rw[if_pos ahw];exact⟨rfl,H.o.samS HP.o,T2.o⟩)| (rw[if_neg ahw];exact⟨rfl,H.o.samS HP.o,T2.o⟩)
def D9(h:KIs w a g 4 x s S)(i:Nat)(hin:i<x.n)(u b z:Int)(hp:S[i]? =some (⟨14,u,b,z⟩:Sp))(Y:s.ops+1<=1000000000000)(hu:-10<=u/\u<=10000000000000):E 447 #[↑x.l,pointer (some ⟨x.q,i*4,none⟩),J ((i:Int)+1)] w (lE w a g x S i (⟨14,u,b,z⟩:Sp) (dK x.t s ((i:Int)+1) (⟨14,u,b,z⟩:Sp))):=by
  refine ajL ?_;intro hn e0;obtain⟨O,hV⟩:=LE (ae s (mWt x.t u) 0);have HX:Kq (dK x.t s ((i:Int)+1) (⟨14,u,b,z⟩:Sp)=(O,⟨0,u,b,z⟩)):=qh ahJ;have HF:=qh (λW (k:KIs W a g 4 x s S)=>pI k u (by exact hu));have I:=(λW (k:KIs W a g 4 x s S)=>an k.ar (mWt x.t u) 0 Y);rw[<-hV]at I;have HO:=qh I;have V:=qh (λW s (S:List Sp) (k:KIs W a g 4 x s S) (hp:S[i]? =some (⟨14,u,b,z⟩:Sp))=>(And.intro k.mi.1 (k.sp.cell hp 1 _ rfl)));refine aiS ?_;intro HP HL K1;clear I h hp hV;go_enter func447,ntmps447;go_wp2_with fail
  go_region_held3 (λW=>W.cell? x.l=some ↑a/\Z W x.q (i*4+1) (J u))
    (first|with_reducible exact V.o _ _ _ K1.o HP.o|with_reducible exact V.o _ _ _ K2.o HP.o)
    (first
      | (go_at_call 448;go_loud (refine LT (HF.o _ K1.o) ?_))
      | (go_at_call 177;go_loud (refine Pi (HO.o _ K1.o) λw3 H=>?_);have K2:=qh (K1.o.op H.o.2 H.o.1);have T2:=qh (((aa.refl [a,g,x.q] w).drew).trans (aJ H.o.2))))
  all_goals go_wp2;go_ret;rw[HX.o];exact⟨rfl,K2.o.samS HP.o,T2.o⟩
def D6(h:KIs w a g 4 x s S)(i:Nat)(hin:i<x.n)(u b z:Int)(hp:S[i]? =some (⟨11,u,b,z⟩:Sp))(Y:s.ops+1<=1000000000000):E 447 #[↑x.l,pointer (some ⟨x.q,i*4,none⟩),J ((i:Int)+1)] w (lE w a g x S i (⟨11,u,b,z⟩:Sp) (dK x.t s ((i:Int)+1) (⟨11,u,b,z⟩:Sp))):=by
  refine ajL ?_;intro hn e0;obtain⟨ab,hV⟩:=LE (af s (mNx x.t ((i:Int)+1)));obtain⟨v,O⟩:=LE (ldW s.W (mNx x.t ((i:Int)+1)));have HX:Kq (dK x.t s ((i:Int)+1) (⟨11,u,b,z⟩:Sp)=(ab,(⟨if v≠0 then 14 else 12,v,b,z⟩:Sp))):=qh ahB;have HF:=qh (λW (k:KIs W a g 4 x s S)=>jM k ((i:Int)+1) ahp);have hv:=(λW (k:KIs W a g 4 x s S)=>aE k.ar (mNx x.t ((i:Int)+1)) Y);rw[<-hV,<-O]at hv;have HO:=qh hv;have I:=qh (λW s (S:List Sp) (y:Int) (k:KIs W a g 4 x s S) (hp:S[i]? =some (⟨11,y,b,z⟩:Sp))=>k.mi.1);refine aiS ?_;intro HP HL K1;clear hv h hp hV O;cases hc:(v !=0)
  all_goals
    go_enter func447,ntmps447;go_wp2_with fail
    go_region_held3 (λW=>W.cell? x.l=some ↑a)
      (first|with_reducible exact I.o _ _ _ _ K1.o HP.o|with_reducible exact I.o _ _ _ _ H.o HP.o|with_reducible exact KL.o)
      (first
        | (go_at_call 442;go_loud (refine LT (HF.o _ K1.o) ?_))
        | (go_at_call 173;go_loud (refine Pi (HO.o _ K1.o) λw3 a3=>?_);have H:=qh (K1.o.op a3.o.2 a3.o.1);have T2:=qh (((aa.refl [a,g,x.q] w).drew).trans (aJ a3.o.2));have V:=qh (H.o.put (p':=(⟨11,v,b,z⟩:Sp)) HP.o (j:=1) (u:= J v) ahr rfl);have KL:=qh (I.o _ _ _ v V.o (au HP.o _));have e1:=H.o.sp.cell HP.o 1 _ rfl;have z1:=H.o.sp.free (i*4+1);have e5:=H.o.sp.cell HP.o 0 _ rfl;simp only[Nat.add_zero]at e5))
  all_goals go_wp2;go_ret;rw[HX.o];first| (rw[if_pos ahw];exact⟨rfl,V.o,T2.o.trans (aH (aV _ _ _))⟩)| (rw[if_neg ahw];exact⟨rfl,V.o,T2.o.trans (aH (aV _ _ _))⟩)
def D8(h:KIs w a g 4 x s S)(i:Nat)(hin:i<x.n)(u b z:Int)(hp:S[i]? =some (⟨13,u,b,z⟩:Sp))(Y:s.ops+1<=1000000000000):E 447 #[↑x.l,pointer (some ⟨x.q,i*4,none⟩),J ((i:Int)+1)] w (lE w a g x S i (⟨13,u,b,z⟩:Sp) (dK x.t s ((i:Int)+1) (⟨13,u,b,z⟩:Sp))):=by
  refine ajL ?_;intro hn e0;obtain⟨ab,hV⟩:=LE (af s (mNx x.t ((i:Int)+1)));obtain⟨v,O⟩:=LE (ldW s.W (mNx x.t ((i:Int)+1)));have HX:Kq (dK x.t s ((i:Int)+1) (⟨13,u,b,z⟩:Sp)=(ab,(⟨if v≠0 then 14 else 13,v,b,z⟩:Sp))):=qh ahB;have HF:=qh (λW (k:KIs W a g 4 x s S)=>jM k ((i:Int)+1) ahp);have hv:=(λW (k:KIs W a g 4 x s S)=>aE k.ar (mNx x.t ((i:Int)+1)) Y);rw[<-hV,<-O]at hv;have HO:=qh hv;have I:=qh (λW s (S:List Sp) (y:Int) (k:KIs W a g 4 x s S) (hp:S[i]? =some (⟨13,y,b,z⟩:Sp))=>k.mi.1);refine aiS ?_;intro HP HL K1;clear hv h hp hV O;cases hc:(v !=0)
  all_goals
    go_enter func447,ntmps447;go_wp2_with fail
    go_region_held3 (λW=>W.cell? x.l=some ↑a)
      (first|with_reducible exact I.o _ _ _ _ K1.o HP.o|with_reducible exact I.o _ _ _ _ H.o HP.o|with_reducible exact KL.o)
      (first
        | (go_at_call 442;go_loud (refine LT (HF.o _ K1.o) ?_))
        | (go_at_call 173;go_loud (refine Pi (HO.o _ K1.o) λw3 a3=>?_);have H:=qh (K1.o.op a3.o.2 a3.o.1);have T2:=qh (((aa.refl [a,g,x.q] w).drew).trans (aJ a3.o.2));have V:=qh (H.o.put (p':=(⟨13,v,b,z⟩:Sp)) HP.o (j:=1) (u:= J v) ahr rfl);have KL:=qh (I.o _ _ _ v V.o (au HP.o _));have e1:=H.o.sp.cell HP.o 1 _ rfl;have z1:=H.o.sp.free (i*4+1);have e5:=H.o.sp.cell HP.o 0 _ rfl;simp only[Nat.add_zero]at e5))
  all_goals go_wp2;go_ret;rw[HX.o];first| (rw[if_pos ahw];exact⟨rfl,V.o,T2.o.trans (aH (aV _ _ _))⟩)| (rw[if_neg ahw];exact⟨rfl,V.o,T2.o.trans (aH (aV _ _ _))⟩)
end
end
section
open Go.RowKit
section
variable{w:World}{g k:Nat}{x:Fx}{s:Ar}{S:List Sp}
structure kQ(k:Nat)(x:Fx)(s:Ar)(S:List Sp)(B:Int):Prop where
 ops:s.ops+1<=1000000000000
 w:WdB B s
 p:∀p∈S,SpB k B p
 B0:1<=B
 B1:B<=10000000000
 inr:inR s.W x.t=true
def kQ.sp(h:kQ k x s S B){p:Sp}(H:S[i]? =some p):SpB k B p:=h.p p (List.mem_of_getElem? H)
def iQ(p:Sp):Prop:=(0<=p.pc/\p.pc<=5)\/(10<=p.pc/\p.pc<=14)
def yU(h:KIs w a g 4 x s S)(C:kQ 4 x s S B)(i:Nat)(p:Sp)(hp:S[i]? =some p)(H:0<p.pc)(O:p.pc<=5):E 446 #[↑x.l,pointer (some ⟨x.q,i*4,none⟩),J ((i:Int)+1)] w (lE w a g x S i p (eG x.t s ((i:Int)+1) p)):=by
  refine aiG ?_;intro hi;have I:=C.sp hp;have Y:=C.ops;have V:=C.B1;obtain⟨pc,u,b,z⟩:=p;have a0:=I.a0;have a1:=I.a1;simp only at H O a0 a1;have:pc=1\/pc=2\/pc=3\/pc=4\/pc=5:=by omega
  rcases this with rfl|rfl|rfl|rfl|rfl
  . exact If h i hi u b z hp Y
  . exact Ig h i hi u b z hp Y
  . exact Ih h i hi u b z hp Y
  . exact Ii h i hi u b z hp Y ahp
  . exact Ij h i hi u b z hp Y
def vr(h:KIs w a g 4 x s S)(C:kQ 4 x s S B)(i:Nat)(p:Sp)(hp:S[i]? =some p)(H:10<p.pc)(O:p.pc<=14):E 447 #[↑x.l,pointer (some ⟨x.q,i*4,none⟩),J ((i:Int)+1)] w (lE w a g x S i p (dK x.t s ((i:Int)+1) p)):=by
  refine aiG ?_;intro hi;have I:=C.sp hp;have Y:=C.ops;have V:=C.B1;obtain⟨pc,u,b,z⟩:=p;have a0:=I.a0;have a1:=I.a1;simp only at H O a0 a1;have:pc=11\/pc=12\/pc=13\/pc=14:=by omega
  rcases this with rfl|rfl|rfl|rfl
  . exact D6 h i hi u b z hp Y
  . exact D7 h i hi u b z hp Y
  . exact D8 h i hi u b z hp Y
  . exact D9 h i hi u b z hp Y ahp
def GoK(w:World)(a g:Nat)(x:Fx)(S:List Sp)(i:Nat)(J3:Int)(r:Ar×Sp)(e:Ending)(w':World):Prop:=
 e= returned (bool (decide (r.2.pc=J3)))/\KIs w' a g 4 x r.1 (S.set i r.2)/\aa [a,g,x.q] w w'
def gH{b c:Bool}(h:b=c):Ending.returned (Value.bool b)=Ending.returned (Value.bool c):=by rw[h]
def Cd(t:Int)(s:Ar)(y:Int)(p:Sp):(eG t s y p).2.pc≠0:=by
 unfold eG;split;.simp
 split;.simp
 split;.simp only;split<;>decide
 split;.simp
 .simp only;split<;>decide
def yT(t:Int)(s:Ar)(y:Int)(p:Sp):(dK t s y p).2.pc≠10:=by
 unfold dK;split;.simp only;split<;>decide
 split;.simp
 .simp only;repeat' split
  all_goals decide
def so(t m:Int)(s:Ar)(i:Int){p:Sp}(H:0<p.pc)(I:p.pc<=5):decide ((eG t s (i+1) p).2.pc=10)=bo p (bK 4 t m s i p).2:=by
 have e:bK 4 t m s i p=eG t s (i+1) p:=by show mr t s i p=_;unfold mr;rw[if_pos ⟨H,by omega⟩]
 rw[e];have O:=Cd t s (i+1) p;unfold bo;by_cases h:(eG t s (i+1) p).2.pc=10;.rw[decide_eq_true h,decide_eq_true ⟨.inl h,by omega,by omega⟩]
 .exact aaG
def qH(t m:Int)(s:Ar)(i:Int){p:Sp}(H:10<p.pc)(I:p.pc<=14):decide ((dK t s (i+1) p).2.pc=0)=bo p (bK 4 t m s i p).2:=by
 have e:bK 4 t m s i p=dK t s (i+1) p:=by show mr t s i p=_;unfold mr;rw[if_neg ahp,if_pos H]
 rw[e];have O:=yT t s (i+1) p;unfold bo;by_cases h:(dK t s (i+1) p).2.pc=0;.rw[decide_eq_true h,decide_eq_true ⟨.inr h,by omega,by omega⟩]
 .exact aaG
def uW(h:KIs w a g 4 x s S)(i:Nat)(p:Sp)(hp:S[i]? =some p)(I:Int)(r:Ar×Sp)(hm:E 446 #[↑x.l,pointer (some ⟨x.q,i*4,none⟩),J ((i:Int)+1)] w (lE w a g x S i p r)):E 445 #[↑x.l,J i,J I,.func (.func 446) #[↑x.l] #[]] w (GoK w a g x S i I r):=by refine aiG ?_;intro hi;have hn:=h.n32;have x7:IntKind.i64.wrap ((i:Int)+1)=(i:Int)+1:=IntWalk.i64_in _ ahp;have V:=qh hm;have O:=qh hp;have H:=qh h;clear h hm hp;cases hc:(r.2.pc==I);all_goals go_enter func445,ntmps445;go_wp2_with (go_at_call 444;refine(bH .mcs H.o i hi).mono ?_;rintro e w' ⟨rfl,rfl⟩);go_wp2_with (go_at_call 446;refine V.o.mono ?_;rintro e w2 ⟨rfl,k2,t2⟩;have Y:=qh (And.intro k2 t2);have K3:=qh (k2.put0 (p':=r.2) (au O.o _) (u:= J r.2.pc) rfl);have f0:=k2.sp.free (i*4);have a0:=k2.sp.cell (au O.o _) 0 _ rfl;simp only[Nat.add_zero]at a0;clear k2 t2);go_ret;have k3:=K3.o;rw[dY]at k3;refine⟨?_,k3,Y.o.2.trans (aH (aV _ _ _))⟩;first| exact gH (decide_eq_true ahw).symm| exact gH (decide_eq_false ahw).symm
def sU(h:KIs w a g 4 x s S)(i:Nat)(p:Sp)(hp:S[i]? =some p)(I:Int)(r:Ar×Sp)(hm:E 447 #[↑x.l,pointer (some ⟨x.q,i*4,none⟩),J ((i:Int)+1)] w (lE w a g x S i p r)):E 445 #[↑x.l,J i,J I,.func (.func 447) #[↑x.l] #[]] w (GoK w a g x S i I r):=by refine aiG ?_;intro hi;have hn:=h.n32;have x7:IntKind.i64.wrap ((i:Int)+1)=(i:Int)+1:=IntWalk.i64_in _ ahp;have V:=qh hm;have O:=qh hp;have H:=qh h;clear h hm hp;cases hc:(r.2.pc==I);all_goals go_enter func445,ntmps445;go_wp2_with (go_at_call 444;refine(bH .mcs H.o i hi).mono ?_;rintro e w' ⟨rfl,rfl⟩);go_wp2_with (go_at_call 447;refine V.o.mono ?_;rintro e w2 ⟨rfl,k2,t2⟩;have Y:=qh (And.intro k2 t2);have K3:=qh (k2.put0 (p':=r.2) (au O.o _) (u:= J r.2.pc) rfl);have f0:=k2.sp.free (i*4);have a0:=k2.sp.cell (au O.o _) 0 _ rfl;simp only[Nat.add_zero]at a0;clear k2 t2);go_ret;have k3:=K3.o;rw[dY]at k3;refine⟨?_,k3,Y.o.2.trans (aH (aV _ _ _))⟩;first| exact gH (decide_eq_true ahw).symm| exact gH (decide_eq_false ahw).symm
def CU(h:KIs w a g 4 x s S)(C:kQ 4 x s S B)(i:Nat)(p:Sp)(O:S[i]? =some p)(hc:iQ p):E 441 #[↑x.l,J i] w (dF w a g 4 x s S i p):=by
  have Ll:=aO;have Y:=qh (ee .mcs h i p O);have HI:=qh (λW (k:KIs W a g 4 x s S) (h0:0<p.pc) (h5:p.pc<=5)=>uW k i p O 10 _ (yU k C i p O h0 h5));have HO:=qh (λW (k:KIs W a g 4 x s S) (h0:10<p.pc) (h5:p.pc<=14)=>sU k i p O 0 _ (vr k C i p O h0 h5));have HP:=qh O;have H:=qh h;clear h O C;obtain⟨pc,u,b,z⟩:=p;have I:pc=0\/pc=10\/(pc=1\/pc=2\/pc=3\/pc=4\/pc=5)\/(pc=11\/pc=12\/pc=13\/pc=14):=by unfold iQ at hc;simp only at hc;omega
  clear hc;rcases I with I|I|I|I
  . subst I;go_enter func441,ntmps441;go_wp2_with (go_at_call 440;refine Y.o.mono ?_;unfold aC;rintro e w1 ⟨rfl,b1⟩;have H1:=qh (And.intro (H.o.below b1) (aa.of_below (S:=[a,g,x.q]) b1));clear b1);go_ret;have k:=H1.o.1;rw[<-cf HP.o]at k;exact⟨rfl,k,H1.o.2⟩
  . subst I;go_enter func441,ntmps441;go_wp2_with (go_at_call 440;refine Y.o.mono ?_;unfold aC;rintro e w1 ⟨rfl,b1⟩;have H1:=qh (And.intro (H.o.below b1) (aa.of_below (S:=[a,g,x.q]) b1));clear b1);go_ret;have k:=H1.o.1;rw[<-cf HP.o]at k;exact⟨rfl,k,H1.o.2⟩
  . rcases I with rfl|rfl|rfl|rfl|rfl
    all_goals go_enter func441,ntmps441;go_wp2_with (go_at_call 440;refine Y.o.mono ?_;unfold aC;rintro e w1 ⟨rfl,b1⟩;have H1:=qh (And.intro (H.o.below b1) (aa.of_below (S:=[a,g,x.q]) b1));clear b1);go_wp2_with (go_at_call 445;refine(HI.o _ H1.o.1 ahq ahq).mono ?_;rintro e w2 ⟨rfl,k2,t2⟩;have V:=qh (And.intro k2 t2);clear k2 t2);go_ret;exact⟨gH (so _ _ _ _ ahq ahq),V.o.1,H1.o.2.trans V.o.2⟩
  . rcases I with rfl|rfl|rfl|rfl
    all_goals go_enter func441,ntmps441;go_wp2_with (go_at_call 440;refine Y.o.mono ?_;unfold aC;rintro e w1 ⟨rfl,b1⟩;have H1:=qh (And.intro (H.o.below b1) (aa.of_below (S:=[a,g,x.q]) b1));clear b1);go_wp2_with (go_at_call 445;refine(HO.o _ H1.o.1 ahq ahq).mono ?_;rintro e w2 ⟨rfl,k2,t2⟩;have V:=qh (And.intro k2 t2);clear k2 t2);go_ret;exact⟨gH (qH _ _ _ _ ahq ahq),V.o.1,H1.o.2.trans V.o.2⟩
def xX(h:KIs w a g 4 x s S)(i:Nat)(p:Sp)(hp:S[i]? =some p)(JU:p.pc=10)(Y:s.ops+1<=1000000000000):E 436 #[↑x.l,J i] w (pM w a g 4 x s S i p):=by
  refine aiG ?_;intro hi;have hn:=h.n32;have Ll:=aO;obtain⟨c,u,b,z⟩:=p;simp only at JU;subst JU;obtain⟨ab,hV⟩:=LE (af s (mNx x.t ((i:Int)+1)));obtain⟨v,O⟩:=LE (ldW s.W (mNx x.t ((i:Int)+1)));have HX:Kq (cy 4 x.t s i ⟨10,u,b,z⟩=(ab,decide (v=0))):=qh ahB;have x7:IntKind.i64.wrap ((i:Int)+1)=(i:Int)+1:=IntWalk.i64_in _ ahp;have hv:=(λW (k:KIs W a g 4 x s S)=>aE k.ar (mNx x.t ((i:Int)+1)) Y);rw[<-hV,<-O]at hv;have HO:=qh hv;have HS:=qh (λW (k:KIs W a g 4 x s S)=>ee .mcs k i _ hp);have HF:=qh (λW (k:KIs W a g 4 x s S)=>jM k ((i:Int)+1) ahp);have I:Kq (∀W s (S':List Sp),KIs W a g 4 x s S'->W.cell? x.l=some ↑a):=qh (λW s S' k=>k.mi.1);have HP:=qh hp;have V:=qh (h.below ((Below.refl _ w).drew));clear hv h hp hV O;cases hd:(v==0)
  all_goals
    go_enter func436,ntmps436;go_wp2_with fail;first
    | (go_region_held3 (λW=>W.cell? x.l=some ↑a)
        (first|with_reducible exact I.o _ _ _ V.o|with_reducible exact I.o _ _ _ H.o|with_reducible exact I.o _ _ _ K3.o)
        (first
          | (go_at_call 440;go_loud (refine(HS.o _ V.o).mono ?_);unfold aC;rintro en w2 ⟨rfl,b2⟩;have H:=qh (V.o.below b2);have T2:=qh (((aa.refl [a,g,x.q] w).drew).trans (aa.of_below b2));clear b2)
          | (go_at_call 442;go_loud (refine LT (HF.o _ H.o) ?_))
          | (go_at_call 173;go_loud (refine Pi (HO.o _ H.o) λw3 a3=>?_);have K3:=qh (H.o.op a3.o.2 a3.o.1);have T3:=qh (T2.o.trans (aJ a3.o.2)))))
    | fail "held"
  all_goals go_wp2;go_ret;rw[pM,HX.o];first| exact⟨by rw[decide_eq_true ahF];rfl,K3.o,T3.o⟩| exact⟨by rw[decide_eq_false ahF];rfl,K3.o,T3.o⟩
end
end
section
open Go.RowKit
section
variable{w:World}{g k:Nat}{x:Fx}{s:Ar}{S:List Sp}
def KIs.wi(h:KIs w a g 1 x s S):w.cell? x.l=some ↑a/\Z w x.l 1 (J x.t)/\Z w x.l 2 (J x.m):=⟨h.lk.cell 0,h.lk.cell 1,h.lk.cell 2⟩
def zt(h:KIs w a g 1 x s S)(i:Nat)(u b z:Int)(hp:S[i]? =some (⟨1,u,b,z⟩:Sp))(Y:s.ops+1<=1000000000000)(Uy:0<=u)(O0:u<=10000000000000):E 410 #[↑x.l,J i] w (dF w a g 1 x s S i ⟨1,u,b,z⟩):=by
  refine aiG ?_;intro hi;have hn:=h.n32;refine ajU ?_;intro a0;obtain⟨ab,hV⟩:=LE (dU s x.t 0 ((i:Int)+1));obtain⟨v,O⟩:=LE (cB s x.t 0);have HX:Kq (bK 1 x.t x.m s i ⟨1,u,b,z⟩=(ab,if v then⟨10,u,b,z⟩else⟨2,min (2*u) x.m,u,z⟩)):=qh ahB;have hv:=(λW (k:KIs W a g 1 x s S)=>jc k.ar x.t 0 ((i:Int)+1) Y);rw[<-hV,<-O]at hv;have e1:IntKind.i64.wrap ((i:Int)+1)=(i:Int)+1:=IntWalk.i64_in _ ahp;have e2:IntKind.i64.wrap (2*u)=2*u:=IntWalk.i64_in _ ahp;have HO:=qh hv;refine ajx ?_;intro HP K0 K1;clear hv h hp hV O;cases v
  . go_enter func410,ntmps410;go_wp2_with (go_at_call 411;refine(bH .tas K0.o i hi).mono ?_;rintro e w' ⟨rfl,rfl⟩)
    go_region_held3 (λW=>W.cell? x.l=some ↑a/\Z W x.l 1 (J x.t)/\Z W x.l 2 (J x.m))
      (first|with_reducible exact K1.o.wi|with_reducible exact H.o.wi)
      (first
        | (go_at_call 272;go_loud (refine Pi (HO.o _ K1.o) λw3 V=>?_);have H:=qh (K1.o.op V.o.2 V.o.1);have T2:=qh (((aa.refl [a,g,x.q] w).drew).trans (aJ V.o.2))))
    have d0:=aaa (H.o.sp.cell HP.o 0 _ rfl);have d1:=H.o.sp.cell HP.o 1 _ rfl;have d2:=H.o.sp.cell HP.o 2 _ rfl;have z0:=H.o.sp.free (i*4);have z1:=H.o.sp.free (i*4+1);have z2:=H.o.sp.free (i*4+2);have d3:=H.o.wi;go_wp2_with fail;obtain⟨mu,Ug⟩:∃r:Int,r=2*u:=⟨_,rfl⟩;rw[<-Ug]at HX e2;have RM:=qh Ug;clear Ug;by_cases hm:(x.m:Int)<mu;. have Q9:min mu (x.m:Int)=x.m:=(by omega);rw[Q9]at HX;have I:=(((H.o.put0 HP.o (p':=(⟨2,u,b,z⟩:Sp)) (u:= J 2) rfl).put (au HP.o _) (j:=2) (p':=(⟨2,u,u,z⟩:Sp)) (u:= J u) ahr rfl).put (au (au HP.o _) _) (j:=1) (p':=(⟨2,x.m,u,z⟩:Sp)) (u:= J x.m) ahr rfl);rw[dY,dY]at I;have K5:=qh (I.below (Below.refl _ _).drew);have T5:=qh (T2.o.trans (aH (a:=a) (g:=g) ((((aV x.q (i*4) (J 2)).trans (aV x.q (i*4+2) (J u))).trans (aV x.q (i*4+1) (J x.m))).drew)));clear I Q9;go_region;go_wp2;all_goals go_ret;rw[dF,HX.o];first| exact⟨rfl,K5.o,T5.o⟩| (exfalso;have e9:=RM.o;omega)| (have e9:=RM.o;subst e9;exact⟨rfl,K5.o,T5.o⟩)
    . have Q9:min mu (x.m:Int)=mu:=(by omega);rw[Q9]at HX;have I:=(((H.o.put0 HP.o (p':=(⟨2,u,b,z⟩:Sp)) (u:= J 2) rfl).put (au HP.o _) (j:=2) (p':=(⟨2,u,u,z⟩:Sp)) (u:= J u) ahr rfl).put (au (au HP.o _) _) (j:=1) (p':=(⟨2,mu,u,z⟩:Sp)) (u:= J mu) ahr rfl);rw[dY,dY]at I;have K5:=qh (I.below (Below.refl _ _).drew);have T5:=qh (T2.o.trans (aH (a:=a) (g:=g) ((((aV x.q (i*4) (J 2)).trans (aV x.q (i*4+2) (J u))).trans (aV x.q (i*4+1) (J mu))).drew)));clear I Q9;go_region;go_wp2;all_goals go_ret;rw[dF,HX.o];first| exact⟨rfl,K5.o,T5.o⟩| (exfalso;have e9:=RM.o;omega)| (have e9:=RM.o;subst e9;exact⟨rfl,K5.o,T5.o⟩)
  . go_enter func410,ntmps410;go_wp2_with (go_at_call 411;refine(bH .tas K0.o i hi).mono ?_;rintro e w' ⟨rfl,rfl⟩)
    go_region_held3 (λW=>W.cell? x.l=some ↑a/\Z W x.l 1 (J x.t)/\Z W x.l 2 (J x.m))
      (first|with_reducible exact K1.o.wi|with_reducible exact H.o.wi)
      (first
        | (go_at_call 272;go_loud (refine Pi (HO.o _ K1.o) λw3 V=>?_);have H:=qh (K1.o.op V.o.2 V.o.1);have T2:=qh (((aa.refl [a,g,x.q] w).drew).trans (aJ V.o.2))))
    have d0:=aaa (H.o.sp.cell HP.o 0 _ rfl);have z0:=H.o.sp.free (i*4);have I:=qh (H.o.put0 HP.o (p':=(⟨10,u,b,z⟩:Sp)) (u:= J 10) rfl);go_wp2;go_ret;rw[dF,HX.o];exact⟨rfl,I.o,T2.o.trans (aH (aV _ _ _))⟩
def zu(h:KIs w a g 1 x s S)(i:Nat)(u b z:Int)(hp:S[i]? =some (⟨2,u,b,z⟩:Sp))(JX:-10000000000000<=b)(Kg:b<=10000000000000):E 410 #[↑x.l,J i] w (dF w a g 1 x s S i ⟨2,u,b,z⟩):=by
  refine aiG ?_;intro hi;refine ajU ?_;intro a0;have a2:=h.sp.cell hp 2 _ rfl;have z0:=h.sp.free (i*4);have z2:=h.sp.free (i*4+2);obtain⟨r,V⟩:∃r:Int,r=b-1:=⟨_,rfl⟩;have HX:Kq (bK 1 x.t x.m s i ⟨2,u,b,z⟩=(s,⟨if r=0 then 1 else 2,u,r,z⟩)):=qh (by rw[V];rfl);have e1:IntKind.i64.wrap (b-1)=r:=by rw[V];exact IntWalk.i64_in _ ahp
  have Y:=qh hp;have I:=qh h;have H:=qh (h.put hp (p':=(⟨2,u,r,z⟩:Sp)) (j:=2) (u:= J r) ahr rfl);have O:=qh (H.o.put0 (au hp _) (p':=(⟨1,u,r,z⟩:Sp)) (u:= J 1) rfl);clear h hp V;cases hc:(r==0)
  all_goals
    go_enter func410,ntmps410;go_wp2_with (go_at_call 411;refine(bH .tas I.o i hi).mono ?_;rintro e w' ⟨rfl,rfl⟩);go_ret;rw[dF,HX.o]
    first
      | (rw[if_pos ahw]
         refine⟨rfl,?_,aH ((aV _ _ _).trans (aV _ _ _))⟩
         have k:=O.o
         rw[dY]at k
         exact k)
      | (rw[if_neg ahw];exact⟨rfl,H.o,aH (aV _ _ _)⟩)
def wy(h:KIs w a g 1 x s S)(i:Nat)(u b z:Int)(hp:S[i]? =some (⟨11,u,b,z⟩:Sp))(Y:s.ops+1<=1000000000000):E 410 #[↑x.l,J i] w (dF w a g 1 x s S i ⟨11,u,b,z⟩):=by
  refine aiG ?_;intro hi;refine ajU ?_;intro a0;obtain⟨V,hV⟩:=LE (ae s x.t 0);have HX:Kq (bK 1 x.t x.m s i ⟨11,u,b,z⟩=(V,⟨0,u,b,z⟩)):=qh ahJ;have O:=(λW (k:KIs W a g 1 x s S)=>an k.ar x.t 0 Y);rw[<-hV]at O;have HO:=qh O;refine ajx ?_;intro HP K0 K1;clear O h hp hV;go_enter func410,ntmps410;go_wp2_with (go_at_call 411;refine(bH .tas K0.o i hi).mono ?_;rintro e w' ⟨rfl,rfl⟩)
  go_region_held3 (λW=>W.cell? x.l=some ↑a/\Z W x.l 1 (J x.t)/\Z W x.l 2 (J x.m))
    (first|with_reducible exact K1.o.wi|with_reducible exact H.o.wi)
    (first
      | (go_at_call 177;go_loud (refine Pi (HO.o _ K1.o) λw3 I=>?_);have H:=qh (K1.o.op I.o.2 I.o.1);have T2:=qh (((aa.refl [a,g,x.q] w).drew).trans (aJ I.o.2))))
  all_goals have d0:=aaa (H.o.sp.cell HP.o 0 _ rfl);have z0:=H.o.sp.free (i*4);have K4:=qh (H.o.put0 HP.o (p':=(⟨0,u,b,z⟩:Sp)) (u:= J 0) rfl);go_wp2;go_ret;rw[dF,HX.o];exact⟨rfl,K4.o,T2.o.trans (aH (aV _ _ _))⟩
def qx(h:KIs w a g 1 x s S)(i:Nat)(p:Sp)(hp:S[i]? =some p)(I:p.pc=0\/p.pc=10):E 410 #[↑x.l,J i] w (dF w a g 1 x s S i p):=by
  refine aiG ?_;intro hi;obtain⟨c,u,b,z⟩:=p;refine ajU ?_;intro a0;have O:=qh hp;have H:=qh h;clear h hp;simp only at I;rcases I with rfl|rfl
  all_goals go_enter func410,ntmps410;go_wp2_with (go_at_call 411;refine(bH .tas H.o i hi).mono ?_;rintro e w' ⟨rfl,rfl⟩);go_ret;refine⟨rfl,?_,aa.refl _ _⟩;have k:=H.o;rw[<-cf O.o]at k;exact k
def uw(h:KIs w a g 1 x s S)(i:Nat)(p:Sp)(Y:S[i]? =some p)(H:p.pc=10):E 412 #[agg #[↑x.l],J i] w (pM w a g 1 x s S i p):=by have Ll:=aO;have b1:=(Below.refl w.heap.size w).alloc (Nat.le_refl _) (cells #[↑x.l] 289);have O:=qh (ee .tas (h.below b1) i p Y);have I:=qh b1;have K0:=qh h;have HX:Kq (cy 1 x.t s i p=(s,true)):=qh (by unfold cy;rw[if_pos H];rfl);obtain⟨pc,u,b,z⟩:=p;simp only at H;subst H;unfold aC at O;clear h Y b1;go_enter func412,ntmps412;go_wp2_with fail;refine Pi O.o λw1 b2=>?_;have V:=qh (show Below w.heap.size w w1 from I.o.trans (b2.o.mono I.o.size));go_wp2;go_ret;rw[pM,HX.o];exact⟨rfl,K0.o.below V.o,aa.of_below V.o⟩
end
end
section
open Go.RowKit
section
variable{w:World}{g k:Nat}{x:Fx}{s:Ar}{S:List Sp}
def KIs.pi(h:KIs w a g 3 x s S):w.cell? x.l=some ↑a/\Z w x.l 1 (J x.t)/\Z w x.l 2 (J x.m)/\Z w x.l 3 (slice (some ⟨x.q,0,none⟩) x.n x.cap):=⟨h.lk.cell 0,h.lk.cell 1,h.lk.cell 2,h.lk.cell 3⟩
def KIs.qt(h:KIs w a g k x s S)(q:Qt w w'):KIs w' a g k x s S:=h.turns (T:=[]) (aa.of_qt q) ahq ahq ahq ahq
def lu(h:KIs w a g 3 x s S)(y:Int)(O:0<=y/\y<=10000000000000):E 178 #[↑x.l,J y] w λe w'=>e= returned (J (pPl x.t x.m y))/\Qt w w':=by
 obtain⟨c0,c1,c2,c3⟩:=h.pi;have t1:=h.t1;have m0:=h.m0;have m1:=h.m1;have hm:((x.m:Int)==0)=false:=by simp;omega
 have V:y%(x.m:Int)<x.m:=Int.emod_lt_of_pos _ ahp;have I:0<=y%(x.m:Int):=Int.emod_nonneg _ ahp;obtain⟨r,H⟩:=LE (y%(x.m:Int));have e0:y.tmod (x.m:Int)=r:=by rw[H];exact Int.tmod_eq_emod_of_nonneg O.1
 have e1:IntKind.i64.wrap ((x.t:Int)+1)=(x.t:Int)+1:=IntWalk.i64_in _ ahp;have e2:IntKind.i64.wrap ((x.t:Int)+1+r)=(x.t:Int)+1+r:=IntWalk.i64_in _ (by rw[<-H]at V I;omega);have HX:Kq (pPl x.t x.m y=(x.t:Int)+1+r):=qh (by unfold pPl;rw[H]);have Y:=qh H;rw[HX.o];rw[<-H]at V I;clear h H;go_enter func178,ntmps178;go_wp2_with fail;go_quiet (fail);go_wp2;go_ret;exact⟨rfl,⟨nq,rfl⟩⟩
def pR(h:KIs w a g 3 x s S)(y:Int)(hy:0<=y/\y<=1000000000000)(Y:s.ops+1<=1000000000000):E 435 #[↑x.l,J y] w λe w'=>e= returned (bool (decide (ldW s.W (pPl x.t x.m y)=y+1)))/\KIs w' a g 3 x (af s (pPl x.t x.m y)) S/\aa [a,g,x.q] w w':=by
  obtain⟨ad,V⟩:=LE (pPl x.t x.m y);obtain⟨ab,hV⟩:=LE (af s ad);obtain⟨v,O⟩:=LE (ldW s.W ad);have hv:=(λW (k:KIs W a g 3 x s S)=>aE k.ar ad Y);rw[<-hV,<-O]at hv;have Pg:=(λW (k:KIs W a g 3 x s S)=>lu k y ahp);rw[<-V]at Pg;rw[<-V,<-O,<-hV];have e2:IntKind.i64.wrap (y+1)=y+1:=IntWalk.i64_in _ ahp;have HO:=qh hv;have Te:=qh Pg;have H:=qh (h.below ((Below.refl _ w).drew));clear hv h hV O Pg V;cases hd:(v==y+1)
  all_goals
    go_enter func435,ntmps435;go_wp2_with fail;first
    | (go_region_held3 (λW=>W.cell? x.l=some ↑a/\Z W x.l 1 (J x.t)/\Z W x.l 2 (J x.m)/\Z W x.l 3 (slice (some ⟨x.q,0,none⟩) x.n x.cap))
        (first|with_reducible exact H.o.pi|with_reducible exact Q2.o.pi|with_reducible exact I.o.pi)
        (first
          | (go_at_call 178;go_loud (refine Pi (Te.o _ H.o) λw2 q2=>?_);have Q2:=qh (H.o.qt q2.o);have T1:=qh (((aa.refl [a,g,x.q] w).drew).trans (aa.of_qt q2.o)))
          | (go_at_call 173;go_loud (refine Pi (HO.o _ Q2.o) λw3 a3=>?_);have I:=qh (Q2.o.op a3.o.2 a3.o.1);have T2:=qh (T1.o.trans (aJ a3.o.2)))))
    | fail "held"
  all_goals go_wp2;go_ret;first| exact⟨by rw[decide_eq_true ahF];rfl,I.o,T2.o⟩| exact⟨by rw[decide_eq_false ahF];rfl,I.o,T2.o⟩
def td(h:KIs w a g 3 x s S)(y:Int)(hy:0<=y/\y<=1000000000000)(Y:s.ops+1<=1000000000000):E 432 #[↑x.l,J y] w λe w'=>e= returned (bool (decide (ldW s.W ((x.t:Int))=y+1)))/\KIs w' a g 3 x (af s ((x.t:Int))) S/\aa [a,g,x.q] w w':=by
  obtain⟨ad,V⟩:=LE ((x.t:Int));obtain⟨ab,hV⟩:=LE (af s ad);obtain⟨v,O⟩:=LE (ldW s.W ad);have hv:=(λW (k:KIs W a g 3 x s S)=>aE k.ar ad Y);rw[<-hV,<-O]at hv;rw[<-V,<-O,<-hV];have e2:IntKind.i64.wrap (y+1)=y+1:=IntWalk.i64_in _ ahp;have HO:=qh hv;rw[V]at HO;have H:=qh (h.below ((Below.refl _ w).drew));clear hv h hV O V;cases hd:(v==y+1)
  all_goals
    go_enter func432,ntmps432;go_wp2_with fail;first
    | (go_region_held3 (λW=>W.cell? x.l=some ↑a/\Z W x.l 1 (J x.t)/\Z W x.l 2 (J x.m)/\Z W x.l 3 (slice (some ⟨x.q,0,none⟩) x.n x.cap))
        (first|with_reducible exact H.o.pi|with_reducible exact Q2.o.pi|with_reducible exact I.o.pi)
        (first
          | (go_at_call 173;go_loud (refine Pi (HO.o _ H.o) λw3 a3=>?_);have I:=qh (H.o.op a3.o.2 a3.o.1);have T2:=qh (((aa.refl [a,g,x.q] w).drew).trans (aJ a3.o.2)))))
    | fail "held"
  all_goals go_wp2;go_ret;first| exact⟨by rw[decide_eq_true ahF];rfl,I.o,T2.o⟩| exact⟨by rw[decide_eq_false ahF];rfl,I.o,T2.o⟩
def si(h:KIs w a g 3 x s S)(i:Nat)(u b z:Int)(hp:S[i]? =some (⟨2,u,b,z⟩:Sp))(H:0<=u/\u<=1000000000000)(Y:s.ops+1<=1000000000000):E 431 #[↑x.l,J i,J 2,.func (.func 435) #[] #[]] w λe w'=>e= returned (bool (decide (ldW s.W (pPl x.t x.m u)=u+1)))/\KIs w' a g 3 x (af s (pPl x.t x.m u)) S/\aa [a,g,x.q] w w':=by refine aiG ?_;intro hi;refine ajU ?_;intro a0;have a1:=h.sp.cell hp 1 _ rfl;have HL:=qh (pR h u H Y);exact aaH
def xY(h:KIs w a g 3 x s S)(i:Nat)(u b z:Int)(hp:S[i]? =some (⟨10,u,b,z⟩:Sp))(H:0<=u/\u<=1000000000000)(Y:s.ops+1<=1000000000000):E 431 #[↑x.l,J i,J 10,.func (.func 432) #[] #[]] w λe w'=>e= returned (bool (decide (ldW s.W ((x.t:Int))=u+1)))/\KIs w' a g 3 x (af s ((x.t:Int))) S/\aa [a,g,x.q] w w':=by refine aiG ?_;intro hi;refine ajU ?_;intro a0;have a1:=h.sp.cell hp 1 _ rfl;have HL:=qh (td h u H Y);exact aaH
def qD(h:KIs w a g 3 x s S)(i:Nat)(p:Sp)(I:S[i]? =some p)(H:p.pc=10)(Y:s.ops+1<=1000000000000)(O:0<=p.a/\p.a<=1000000000000):E 425 #[↑x.l,J i] w (pM w a g 3 x s S i p):=by obtain⟨c,u,b,z⟩:=p;simp only at H O;subst H;have HA:=qh (xY h i u b z I O Y);have HX:Kq (cy 3 x.t s i ⟨10,u,b,z⟩=(af s x.t,decide (ldW s.W x.t=u+1))):=qh rfl;clear h I;go_enter func425,ntmps425;go_wp2_with fail;refine Pi HA.o λw2 V=>?_;go_wp2;go_ret;rw[pM,HX.o];exact⟨rfl,V.o⟩
def wv(h:KIs w a g 3 x s S)(i:Nat)(u b z:Int)(hp:S[i]? =some (⟨1,u,b,z⟩:Sp))(Y:s.ops+1<=1000000000000)(hw:inR s.W x.t=true)(Km:0<=ldW s.W x.t)(P6:ldW s.W x.t<=10000000000000):E 430 #[↑x.l,J i] w (dF w a g 3 x s S i ⟨1,u,b,z⟩):=by
  have Ll:=aO;refine aiG ?_;intro hi;have hn:=h.n32;have Oi:=h.cap;have t2:¬(i:Int)<0:=by omega
  have HS:=qh (ee .parted h i _ hp);unfold aC at HS;obtain⟨ab,hV⟩:=LE (addA s x.t 1);obtain⟨v,O⟩:=LE (ldW s.W x.t);have HX:Kq (bK 3 x.t x.m s i ⟨1,u,b,z⟩=(ab,⟨2,v,b,z⟩)):=qh ahB;have I:=(λW (k:KIs W a g 3 x s S)=>ie k.ar x.t 1 Y);rw[if_pos hw,<-hV,<-O]at I;rw[<-O]at Km P6;have e1:IntKind.i64.wrap (v+1)=v+1:=IntWalk.i64_in _ ahp;have e2:IntKind.i64.wrap v=v:=IntWalk.i64_in _ ahp;rw[e1]at I;have HO:=qh I;have V:=qh hp;have K0:=qh h;clear I h hp hV O e1;go_enter func430,ntmps430;go_wp2_with fail;refine ajl ?_;intro w1 b1 Tp K1 T0 Ts;go_wp2_with fail
  go_region_held3 (λW=>W.cell? x.l=some ↑a/\Z W x.l 1 (J x.t)/\Z W x.l 2 (J x.m)/\Z W x.l 3 (slice (some ⟨x.q,0,none⟩) x.n x.cap))
    (first|with_reducible exact K1.o.pi|with_reducible exact H.o.pi|with_reducible exact K3.o.pi)
    (first
      | (go_at_call 298;go_loud (refine Pi (HO.o _ K1.o) λw3 a3=>?_);have H:=qh (K1.o.op a3.o.2 a3.o.1);have T2:=qh (T0.o.trans (aJ a3.o.2));have K3:=qh (H.o.put (p':=(⟨1,v,b,z⟩:Sp)) V.o (j:=1) (u:= J v) ahr rfl);have e4:=H.o.sp.cell V.o 1 _ rfl;have z1:=H.o.sp.free (i*4+1)))
  all_goals have HT:=qh (j5 .parted i _ _ V.o K3.o 2);go_wp2_with (go_at_call 433;refine HT.o.mono ?_;rintro e w' ⟨rfl,k4,t4⟩;have K4:=qh (And.intro k4 t4);clear k4 t4);go_ret;rw[dF,HX.o];exact⟨rfl,K4.o.1,(T2.o.trans (aH (aV _ _ _))).trans (aH K4.o.2)⟩
def ww(h:KIs w a g 3 x s S)(i:Nat)(u b z:Int)(hp:S[i]? =some (⟨2,u,b,z⟩:Sp))(Y:s.ops+1<=1000000000000)(hu:0<=u/\u<=1000000000000):E 430 #[↑x.l,J i] w (dF w a g 3 x s S i ⟨2,u,b,z⟩):=by
  have Ll:=aO;refine aiG ?_;intro hi;have hn:=h.n32;have Oi:=h.cap;have t2:¬(i:Int)<0:=by omega
  have HS:=qh (ee .parted h i _ hp);unfold aC at HS;obtain⟨ab,hV⟩:=LE (af s (pPl x.t x.m u));obtain⟨v,O⟩:=LE (ldW s.W (pPl x.t x.m u));have HX:Kq (bK 3 x.t x.m s i ⟨2,u,b,z⟩=(ab,⟨if v=u+1 then 10 else 2,u,b,z⟩)):=qh ahB;have I:=(λW (k:KIs W a g 3 x s S)=>si k i u b z hp hu Y);rw[<-hV,<-O]at I;have V:=qh hp;have K0:=qh h;obtain⟨q,hq⟩:=LE (decide (v=u+1));rw[<-hq]at I;have HQ:=qh hq;have HA:=qh I;clear h hp hV O I hq;cases q
  all_goals
    go_enter func430,ntmps430;go_wp2_with fail;refine ajl ?_;intro w1 b1 Tp K1 T0 Ts;go_wp2_with fail;refine Pi (HA.o _ Tp.o) λw2 k2=>?_;have H:=qh (And.intro k2.o.1 (Ts.o.trans k2.o.2))
    first
      | (have HT:=qh (j5 .parted i _ _ V.o (by rw[cf V.o];exact H.o.1) 10)
         go_wp2_with (go_at_call 433;refine HT.o.mono ?_;rintro e w' ⟨rfl,k4,t4⟩;have K4:=qh (And.intro k4 t4);clear k4 t4)
         go_ret
         rw[dF,HX.o]
         rw[if_pos (by simpa using HQ.o.symm)]
         exact⟨rfl,K4.o.1,H.o.2.trans (aH K4.o.2)⟩)
      | (go_wp2
         go_ret
         rw[dF,HX.o,if_neg (by simpa using HQ.o.symm),cf V.o]
         exact⟨rfl,H.o.1,H.o.2⟩)
def ud(h:KIs w a g 3 x s S)(i:Nat)(u b z:Int)(hp:S[i]? =some (⟨11,u,b,z⟩:Sp))(Y:s.ops+1<=1000000000000)(hu:0<=u/\u<=1000000000000):E 430 #[↑x.l,J i] w (dF w a g 3 x s S i ⟨11,u,b,z⟩):=by
  have Ll:=aO;refine aiG ?_;intro hi;have hn:=h.n32;have Oi:=h.cap;have t2:¬(i:Int)<0:=by omega
  have HS:=qh (ee .parted h i _ hp);unfold aC at HS;obtain⟨ad,O⟩:=LE (pPl x.t x.m (u+1));obtain⟨ab,hV⟩:=LE (ae s ad (u+2));have HX:Kq (bK 3 x.t x.m s i ⟨11,u,b,z⟩=(ab,⟨0,u,b,z⟩)):=qh (by rw[hV,O];rfl);have hv:=(λW (k:KIs W a g 3 x s S)=>an k.ar ad (u+2) Y);rw[<-hV]at hv;have V:=(λW (k:KIs W a g 3 x s S)=>lu k (u+1) ahp);rw[<-O]at V;have Te:=qh V;have e1:IntKind.i64.wrap (u+1)=u+1:=IntWalk.i64_in _ ahp;have e2:IntKind.i64.wrap (u+2)=u+2:=IntWalk.i64_in _ ahp;have HO:=qh hv;have I:Kq (∀W s (S':List Sp) (c:Int),KIs W a g 3 x s S'->S'[i]? =some (⟨c,u,b,z⟩:Sp)->W.cell? x.l=some ↑a/\Z W x.l 1 (J x.t)/\Z W x.l 2 (J x.m)/\Z W x.l 3 (slice (some ⟨x.q,0,none⟩) x.n x.cap)/\Z W x.q (i*4+1) (J u)):=qh (λW s S' c k hp=>⟨k.pi.1,k.pi.2.1,k.pi.2.2.1,k.pi.2.2.2,k.sp.cell hp 1 _ rfl⟩);have H:=qh hp;have K0:=qh h;clear hv V h hp hV O;go_enter func430,ntmps430;go_wp2_with fail;refine ajl ?_;intro w1 b1 Tp K1 T0 Ts;go_wp2_with fail
  go_region_held3 (λW=>W.cell? x.l=some ↑a/\Z W x.l 1 (J x.t)/\Z W x.l 2 (J x.m)/\Z W x.l 3 (slice (some ⟨x.q,0,none⟩) x.n x.cap)/\Z W x.q (i*4+1) (J u))
    (first|with_reducible exact I.o _ _ _ _ K1.o H.o|with_reducible exact I.o _ _ _ _ Q2.o H.o|with_reducible exact I.o _ _ _ _ K2.o H.o)
    (first
      | (go_at_call 178;go_loud (refine Pi (Te.o _ K1.o) λw2 q2=>?_);have Q2:=qh (K1.o.qt q2.o);have T1:=qh (T0.o.trans (aa.of_qt q2.o)))
      | (go_at_call 177;go_loud (refine Pi (HO.o _ Q2.o) λw3 a3=>?_);have K2:=qh (Q2.o.op a3.o.2 a3.o.1);have T2:=qh (T1.o.trans (aJ a3.o.2))))
  all_goals have HT:=qh (j5 .parted i _ _ H.o (by rw[cf H.o];exact K2.o) 0);go_wp2_with (go_at_call 433;refine HT.o.mono ?_;rintro e w' ⟨rfl,k4,t4⟩;have K4:=qh (And.intro k4 t4);clear k4 t4);go_ret;rw[dF,HX.o];exact⟨rfl,K4.o.1,T2.o.trans (aH K4.o.2)⟩
def pu(h:KIs w a g 3 x s S)(i:Nat)(p:Sp)(I:S[i]? =some p)(V:p.pc=0\/p.pc=10):E 430 #[↑x.l,J i] w (dF w a g 3 x s S i p):=by
  have Ll:=aO;have H:=qh (ee .parted h i _ I);unfold aC at H;obtain⟨c,u,b,z⟩:=p;have Y:=qh I;have K0:=qh h;clear h I;simp only at V H;rcases V with rfl|rfl
  all_goals go_enter func430,ntmps430;go_wp2_with fail;refine Pi H.o λw1 O=>?_;go_wp2;go_ret;refine⟨rfl,?_,aa.of_below O.o⟩;have k:=K0.o.below O.o;rw[<-cf Y.o]at k;exact k
end
end
section
open Go.RowKit
section
variable{w w0:World}{g k bx:Nat}{x:Fx}{s s':Ar}{S S':List Sp}
def KIs.ci(h:KIs w a g 5 x s S):w.cell? x.l=some ↑a/\Z w x.l 1 (J x.t)/\Z w x.l 2 (slice (some ⟨x.q,0,none⟩) x.n x.cap):=⟨h.lk.cell 0,h.lk.cell 1,h.lk.cell 2⟩
structure KBx(w0 w:World)(a g:Nat)(x:Fx)(s:Ar)(S:List Sp)(bx:Nat):Prop where
 ki:KIs w a g 5 x s S
 bk:Blk w bx 299 #[↑x.l]
 nS:bx∉[a,g,x.q]
 tn:aa [a,g,x.q] w0 w
def KBx.to(h:KBx w0 w a g x s S bx)(k:KIs w' a g 5 x s' S')(t:aa [a,g,x.q] w w'):KBx w0 w' a g x s' S' bx:=⟨k,t.blk h.bk h.nS,h.nS,h.tn.trans t⟩
def KBx.drew(h:KBx w0 w a g x s S bx):KBx w0 w.drew a g x s S bx:=h.to (h.ki.below (Below.refl _ _).drew) (aa.refl _ _).drew
def KBx.op(h:KBx w0 w a g x s S bx)(t:aa [a,g] w w')(H:aB w' a g s'):KBx w0 w' a g x s' S bx:=h.to (h.ki.op t H) (aJ t)
def KBx.put(h:KBx w0 w a g x s S bx){p p':Sp}(O:S[i]? =some p){j:Nat}(I:j<4)(H:(bf p).set j u=bf p'):KBx w0 (w.setCell ⟨x.q,i*4+j,none⟩ u) a g x s (S.set i p') bx:=h.to (h.ki.put O I H) (aH (aV _ _ _))
def KBx.put0(h:KBx w0 w a g x s S bx){p p':Sp}(I:S[i]? =some p)(H:(bf p).set 0 u=bf p'):KBx w0 (w.setCell ⟨x.q,i*4,none⟩ u) a g x s (S.set i p') bx:=h.put I (j:=0) ahr H
def KBx.new(h:KIs w a g 5 x s S):KBx w (w.alloc (cells #[↑x.l] 299)) a g x s S w.heap.size:=by have h1:=h.ar.blk.lt;have H:=h.ar.wds.lt;have I:=h.sp.lt;exact⟨h.below ((Below.refl _ _).alloc (Nat.le_refl _) _),Blk.new w _ _,by simp;omega,(aa.refl _ _).alloc _⟩
def KBx.cs(h:KBx w0 w a g x s S bx){p:Sp}(H:S[i]? =some p):w.cell? bx=some ↑x.l/\w.cell? x.l=some ↑a/\Z w x.q (i*4+1) (J p.a)/\Z w x.q (i*4+2) (J p.b):=⟨h.bk.cell 0,h.ki.ci.1,h.ki.sp.cell H 1 _ rfl,h.ki.sp.cell H 2 _ rfl⟩
def mY(h:KBx w0 w a g x s S bx)(n r:Int)(V:(x.t:Int)+n=r)(I:-10<=n/\n<=10000000000000):E 457 #[J n,↑bx] w λe w'=>e= returned (J r)/\w=w':=by
 have c0:w.cell? bx=some ↑x.l:=h.bk.cell 0;have c1:=h.ki.ci.2.1;have t1:=h.ki.t1;have H:IntKind.i64.wrap ((x.t:Int)+n)=r:=by rw[V];exact IntWalk.i64_in _ ahp
 clear h V;go_enter func457,ntmps457;exact aab
def zo(h:KIs w a g 5 x s S)(i:Nat)(u b z:Int)(hp:S[i]? =some (⟨1,u,b,z⟩:Sp))(Y:s.ops+1<=1000000000000)(hu:0<=u/\u<=1000000000000):E 454 #[↑x.l,J i] w (dF w a g 5 x s S i ⟨1,u,b,z⟩):=by
  refine aiG ?_;intro hi;have hn:=h.n32;refine ai9 ?_;intro Lu N0 HP;obtain⟨O,I⟩:=LE ((x.t:Int)+u);obtain⟨ab,V⟩:=LE (ae s O 1);have HX:Kq (bK 5 x.t x.m s i ⟨1,u,b,z⟩=(ab,⟨2,u,b,z⟩)):=qh (by rw[V,I];rfl);have hv:=(λW (k:KIs W a g 5 x s S)=>an k.ar O 1 Y);rw[<-V]at hv;have HO:=qh hv;have HB:=qh (λW (k:KBx w W a g x s S w.heap.size)=>mY k u O I.symm ahp);have t1:=h.t1;clear hv h hp V I;go_enter func454,ntmps454;refine ajf ?_;intro a0 b0 N1;go_wp2_with (go_at_call 456;refine(Lu.o _ N0.o).mono ?_;rintro e w' ⟨rfl,rfl⟩);go_wp2_with fail
  go_region_held3 (λW=>W.cell? w.heap.size=some ↑x.l/\W.cell? x.l=some ↑a/\Z W x.q (i*4+1) (J u)/\Z W x.q (i*4+2) (J b))
    (first|with_reducible exact N1.o.cs HP.o|with_reducible exact H.o.cs HP.o)
    (first
      | (go_at_call 457;go_loud (refine LT (HB.o _ N1.o) ?_))
      | (go_at_call 177;go_loud (refine Pi (HO.o _ N1.o.ki) λw3 a3=>?_);have H:=qh (N1.o.op a3.o.2 a3.o.1)))
  all_goals have d0:=aaa (H.o.ki.sp.cell HP.o 0 _ rfl);have z0:=H.o.ki.sp.free (i*4);have N3:=qh (H.o.put0 HP.o (p':=(⟨2,u,b,z⟩:Sp)) (u:= J 2) rfl);go_wp2;go_ret;rw[dF,HX.o];exact⟨rfl,N3.o.ki,N3.o.tn⟩
def zp(h:KIs w a g 5 x s S)(i:Nat)(u b z:Int)(hp:S[i]? =some (⟨2,u,b,z⟩:Sp))(Y:s.ops+1<=1000000000000)(hu:0<=u/\u<=1000000000000):E 454 #[↑x.l,J i] w (dF w a g 5 x s S i ⟨2,u,b,z⟩):=by
  refine aiG ?_;intro hi;have hn:=h.n32;refine ai9 ?_;intro Lu N0 HP;obtain⟨V,Lb⟩:=LE ((x.t:Int));obtain⟨ab,hV⟩:=LE (ch s V u);obtain⟨v,O⟩:=LE (ldW s.W V);have HX:Kq (bK 5 x.t x.m s i ⟨2,u,b,z⟩=(ab,⟨3,u,v,z⟩)):=qh (by rw[hV,O,Lb];rfl);have hv:=(λW (k:KIs W a g 5 x s S)=>fh k.ar V u Y);rw[<-hV,<-O]at hv;have HO:=qh hv;have HB:=qh (λW (k:KBx w W a g x s S w.heap.size)=>mY k 0 V (by rw[Lb];omega) ahp);have HC:=qh (λW s (S:List Sp) (N:KBx w W a g x s S w.heap.size) (y:Int) (hp:S[i]? =some (⟨2,u,y,z⟩:Sp))=>And.intro (N.cs hp).1 (And.intro (N.cs hp).2.1 (N.cs hp).2.2.1));have t1:=h.t1;clear hv h hp hV Lb O;go_enter func454,ntmps454;refine ajf ?_;intro a0 b0 N1;go_wp2_with (go_at_call 456;refine(Lu.o _ N0.o).mono ?_;rintro e w' ⟨rfl,rfl⟩);go_wp2_with fail
  go_region_held3 (λW=>W.cell? w.heap.size=some ↑x.l/\W.cell? x.l=some ↑a/\Z W x.q (i*4+1) (J u))
    (first|with_reducible exact HC.o _ _ _ N1.o _ HP.o|with_reducible exact HC.o _ _ _ H.o _ HP.o|with_reducible exact HC.o _ _ _ I.o _ (au HP.o _))
    (first
      | (go_at_call 457;go_loud (refine LT (HB.o _ N1.o) ?_))
      | (go_at_call 271;go_loud (refine Pi (HO.o _ N1.o.ki) λw3 a3=>?_);have H:=qh (N1.o.op a3.o.2 a3.o.1);have I:=qh (H.o.put (p':=(⟨2,u,v,z⟩:Sp)) HP.o (j:=2) (u:= J v) ahr rfl);have e1:=H.o.ki.sp.cell HP.o 2 _ rfl;have z1:=H.o.ki.sp.free (i*4+2)))
  all_goals have d0:=aaa (I.o.ki.sp.cell (au HP.o _) 0 _ rfl);have z0:=I.o.ki.sp.free (i*4);have N4:=qh (I.o.put0 (au HP.o _) (p':=(⟨3,u,v,z⟩:Sp)) (u:= J 3) rfl);clear e1 z1;go_wp2;go_ret;rw[dF,HX.o];have k:=N4.o.ki;rw[dY]at k;exact⟨rfl,k,N4.o.tn⟩
def zq(h:KIs w a g 5 x s S)(i:Nat)(u b z:Int)(hp:S[i]? =some (⟨3,u,b,z⟩:Sp))(Y:s.ops+1<=1000000000000)(I:0<=b/\b<=1000000000000):E 454 #[↑x.l,J i] w (dF w a g 5 x s S i ⟨3,u,b,z⟩):=by
  refine aiG ?_;intro hi;have hn:=h.n32;refine ai9 ?_;intro Lu N0 HP;obtain⟨ad,Lb⟩:=LE ((x.t:Int)+b);obtain⟨ab,hV⟩:=LE (af s ad);obtain⟨v,O⟩:=LE (ldW s.W ad);have HX:Kq (bK 5 x.t x.m s i ⟨3,u,b,z⟩=(ab,⟨if v=0 then 10 else 3,u,b,z⟩)):=qh (by rw[hV,O,Lb];rfl);have hv:=(λW (k:KIs W a g 5 x s S)=>aE k.ar ad Y);rw[<-hV,<-O]at hv;have HO:=qh hv;have HB:=qh (λW (k:KBx w W a g x s S w.heap.size)=>mY k b ad Lb.symm ahp);have t1:=h.t1;clear hv h hp hV Lb O;cases hc:(v==0)
  . go_enter func454,ntmps454;refine ajf ?_;intro a0 b0 N1;go_wp2_with (go_at_call 456;refine(Lu.o _ N0.o).mono ?_;rintro e w' ⟨rfl,rfl⟩);go_wp2_with fail;refine wp_region_held_drew (S:=(λW=>W.cell? w.heap.size=some ↑x.l/\W.cell? x.l=some ↑a/\Z W x.q (i*4+1) (J u)/\Z W x.q (i*4+2) (J b))) ahs (by exact N1.o.cs HP.o) (λhHeld=>?_);refine aiW ?_;refine wpAnyH_ready (rs:=[9]) ahs ahq ?_;refine AllReadyH.cons rfl (λK hK=>?_) AllReadyH.nil;go_simp;go_at_call 457;refine LT (HB.o _ N1.o) ?_;refine hK.out _ _ ?_ (λhHeld=>?_);. exact N1.o.cs HP.o
    clear hK K;try simp only[Act.put,List.setIfInBounds_toArray,List.set_cons_zero,List.set_cons_succ,List.getElem_toArray,List.getElem_cons_zero,List.getElem_cons_succ]
    refine wpAnyH_ready (rs:=[10]) ahs ahq ?_;refine AllReadyH.cons rfl (λK hK=>?_) AllReadyH.nil;go_simp;go_at_call 173;refine Pi (HO.o _ N1.o.ki) λw3 a3=>?_;have H:=qh (N1.o.op a3.o.2 a3.o.1);refine hK.out _ _ ?_ (λhHeld=>?_);. exact H.o.cs HP.o
    clear hK K;try simp only[Act.put,List.setIfInBounds_toArray,List.set_cons_zero,List.set_cons_succ,List.getElem_toArray,List.getElem_cons_zero,List.getElem_cons_succ]
    refine tk 11 ?_;refine tk 12 ?_;refine tk 13 ?_;refine tk 14 ?_;refine tk 15 ?_;refine tk 16 ?_;refine tk 17 ?_;refine wpAnyH_done ahs ?_ _;go_wp2;go_ret;rw[dF,HX.o];rw[if_neg ahw,cf HP.o];exact⟨rfl,H.o.ki,H.o.tn⟩
  . go_enter func454,ntmps454;refine ajf ?_;intro a0 b0 N1;go_wp2_with (go_at_call 456;refine(Lu.o _ N0.o).mono ?_;rintro e w' ⟨rfl,rfl⟩);go_wp2_with fail;first
    | (go_region_held3 (λW=>W.cell? w.heap.size=some ↑x.l/\W.cell? x.l=some ↑a/\Z W x.q (i*4+1) (J u)/\Z W x.q (i*4+2) (J b))
        (first|with_reducible exact N1.o.cs HP.o|with_reducible exact H.o.cs HP.o|with_reducible exact N4.o.cs (au HP.o _))
        (first
          | (go_at_call 457;go_loud (refine LT (HB.o _ N1.o) ?_))
          | (go_at_call 173;go_loud (refine Pi (HO.o _ N1.o.ki) λw3 a3=>?_);have H:=qh (N1.o.op a3.o.2 a3.o.1);have HT:=qh (j5 .clh i _ _ HP.o (by rw[cf HP.o];exact H.o.ki) 10))
          | (go_at_call 455;go_loud (refine Pi HT.o λw4 k4=>?_);have N4:=qh (H.o.to k4.o.1 (aH k4.o.2)))))
    | fail "held"
    all_goals go_wp2;go_ret;rw[dF,HX.o];rw[if_pos ahw];exact⟨rfl,N4.o.ki,N4.o.tn⟩
def wu(h:KIs w a g 5 x s S)(i:Nat)(u b z:Int)(hp:S[i]? =some (⟨11,u,b,z⟩:Sp))(Y:s.ops+1<=1000000000000)(hu:0<=u/\u<=1000000000000):E 454 #[↑x.l,J i] w (dF w a g 5 x s S i ⟨11,u,b,z⟩):=by
  refine aiG ?_;intro hi;have hn:=h.n32;refine ai9 ?_;intro Lu N0 HP;obtain⟨O,I⟩:=LE ((x.t:Int)+u);obtain⟨ab,V⟩:=LE (ae s O 0);have HX:Kq (bK 5 x.t x.m s i ⟨11,u,b,z⟩=(ab,⟨0,b,b,z⟩)):=qh (by rw[V,I];rfl);have hv:=(λW (k:KIs W a g 5 x s S)=>an k.ar O 0 Y);rw[<-V]at hv;have HO:=qh hv;have HB:=qh (λW (k:KBx w W a g x s S w.heap.size)=>mY k u O I.symm ahp);have t1:=h.t1;clear hv h hp V I;go_enter func454,ntmps454;refine ajf ?_;intro a0 b0 N1;go_wp2_with (go_at_call 456;refine(Lu.o _ N0.o).mono ?_;rintro e w' ⟨rfl,rfl⟩);go_wp2_with fail
  go_region_held3 (λW=>W.cell? w.heap.size=some ↑x.l/\W.cell? x.l=some ↑a/\Z W x.q (i*4+1) (J u)/\Z W x.q (i*4+2) (J b))
    (first|with_reducible exact N1.o.cs HP.o|with_reducible exact H.o.cs HP.o)
    (first
      | (go_at_call 457;go_loud (refine LT (HB.o _ N1.o) ?_))
      | (go_at_call 177;go_loud (refine Pi (HO.o _ N1.o.ki) λw3 a3=>?_);have H:=qh (N1.o.op a3.o.2 a3.o.1)))
  all_goals have d1:=H.o.ki.sp.cell HP.o 1 _ rfl;have d2:=H.o.ki.sp.cell HP.o 2 _ rfl;have z1:=H.o.ki.sp.free (i*4+1);have b2:=H.o.bk.cell 0;have N3:=qh (H.o.put HP.o (p':=(⟨11,b,b,z⟩:Sp)) (j:=1) (u:= J b) ahr rfl);have HT:=qh (j5 .clh i _ _ HP.o N3.o.ki 0);go_wp2_with (go_at_call 455;refine HT.o.mono ?_;rintro e w' ⟨rfl,k4,t4⟩;have N4:=qh (N3.o.to k4 (aH t4));clear k4 t4);go_ret;rw[dF,HX.o];exact⟨rfl,N4.o.ki,N4.o.tn⟩
def qw(h:KIs w a g 5 x s S)(i:Nat)(p:Sp)(hp:S[i]? =some p)(H:p.pc=0\/p.pc=10):E 454 #[↑x.l,J i] w (dF w a g 5 x s S i p):=by
  refine aiG ?_;intro hi;refine ai9 ?_;intro Lu N0 HP;obtain⟨c,u,b,z⟩:=p;clear h hp;simp only at H;rcases H with rfl|rfl
  all_goals go_enter func454,ntmps454;refine ajf ?_;intro a0 b0 N1;go_wp2_with (go_at_call 456;refine(Lu.o _ N0.o).mono ?_;rintro e w' ⟨rfl,rfl⟩);go_ret;refine⟨rfl,?_,N0.o.tn⟩;have k:=N0.o.ki;rw[<-cf HP.o]at k;exact k
def xW(h:KIs w a g 5 x s S)(i:Nat)(p:Sp)(hp:S[i]? =some p)(JU:p.pc=10)(Y:s.ops+1<=1000000000000):E 449 #[↑x.l,J i] w (pM w a g 5 x s S i p):=by
  refine aiG ?_;intro hi;have hn:=h.n32;have Oi:=h.cap;have Ll:=aO;have t2:¬(i:Int)<0:=by omega
  obtain⟨c,u,b,z⟩:=p;simp only at JU;subst JU;obtain⟨ab,hV⟩:=LE (af s x.t);obtain⟨v,O⟩:=LE (ldW s.W x.t);have HX:Kq (cy 5 x.t s i ⟨10,u,b,z⟩=(ab,decide (v=u))):=qh ahB;have hv:=(λW (k:KIs W a g 5 x s S)=>aE k.ar x.t Y);rw[<-hV,<-O]at hv;have HO:=qh hv;have HS:=qh (λW (k:KIs W a g 5 x s S)=>ee .clh k i _ hp);have H:Kq (∀W s (S':List Sp),KIs W a g 5 x s S'->S'[i]? =some (⟨10,u,b,z⟩:Sp)->W.cell? x.l=some ↑a/\Z W x.l 1 (J x.t)/\Z W x.l 2 (slice (some ⟨x.q,0,none⟩) x.n x.cap)/\Z W x.q (i*4+1) (J u)):=qh (λW s S' k hp=>⟨k.ci.1,k.ci.2.1,k.ci.2.2,k.sp.cell hp 1 _ rfl⟩);have I:=qh hp;have V:=qh (h.below ((Below.refl _ w).drew));clear hv h hp hV O;cases hd:(v==u)
  all_goals
    go_enter func449,ntmps449;go_wp2_with fail;first
    | (go_region_held3 (λW=>W.cell? x.l=some ↑a/\Z W x.l 1 (J x.t)/\Z W x.l 2 (slice (some ⟨x.q,0,none⟩) x.n x.cap)/\Z W x.q (i*4+1) (J u))
        (first|with_reducible exact H.o _ _ _ V.o I.o|with_reducible exact H.o _ _ _ K2.o I.o|with_reducible exact H.o _ _ _ K3.o I.o)
        (first
          | (go_at_call 453;go_loud (refine(HS.o _ V.o).mono ?_);unfold aC;rintro en w2 ⟨rfl,b2⟩;have K2:=qh (V.o.below b2);have T2:=qh (((aa.refl [a,g,x.q] w).drew).trans (aa.of_below b2));clear b2)
          | (go_at_call 173;go_loud (refine Pi (HO.o _ K2.o) λw3 a3=>?_);have K3:=qh (K2.o.op a3.o.2 a3.o.1);have T3:=qh (T2.o.trans (aJ a3.o.2)))))
    | fail "held"
  all_goals go_wp2;go_ret;rw[pM,HX.o];first| exact⟨by rw[decide_eq_true ahF];rfl,K3.o,T3.o⟩| exact⟨by rw[decide_eq_false ahF];rfl,K3.o,T3.o⟩
end
end
section
open Go.RowKit
variable{P:Prop}
def ifV(k l:Nat):Value:=
 match k with
 |1=> .iface 289 (agg #[↑l])
 |2=> .iface 290 ↑l
 |3=> .iface 293 ↑l
 |4=> .iface 296 ↑l
 |_=> .iface 299 ↑l
structure du(w:World)(a g k:Nat)(x:Fx)(s:Ar)(S:List Sp):Prop where
 p:Blk w x.p 303 #[int i64 (k:Int),ifV k x.l]
 ki:KIs w a g k x s S
 pa:x.p≠a
 pg:x.p≠g
 pq:x.p≠x.q
def KOk(k:Nat):Prop:=k=1\/k=2\/k=3\/k=4\/k=5
def KOk.of{k:Nat}(h:1<=k/\k<=5):KOk k:=by unfold KOk;omega
def KOk.le{k:Nat}(h:KOk k):1<=k/\k<=5:=by unfold KOk at h;omega
def pcK(k:Nat)(p:Sp):Prop:=
 if k=4 then iQ p else if k=5 then p.pc=0\/p.pc=1\/p.pc=2\/p.pc=3\/p.pc=10\/p.pc=11 else p.pc=0\/p.pc=1\/p.pc=2\/p.pc=10\/p.pc=11
section
variable{w:World}{g k:Nat}{x:Fx}{s s':Ar}{S S':List Sp}{T:List Nat}
def du.turns(h:du w a g k x s S)(t:aa T w w')(H:x.p∉T)(h1:x.l∉T)(I:a∉T)(O:g∉T)(V:x.q∉T):du w' a g k x s S:=
 {h with p:=t.blk h.p H,ki:=h.ki.turns t h1 I O V}
def du.below(h:du w a g k x s S)(t:Below w.heap.size w w'):du w' a g k x s S:=
 h.turns (T:=[]) (aa.of_below t) ahq ahq ahq ahq ahq
def du.to(h:du w a g k x s S)(t:aa [a,g,x.q] w w')(H:KIs w' a g k x s' S'):du w' a g k x s' S':=
 {h with p:=t.blk h.p (by simp[h.pa,h.pg,h.pq]),ki:=H}
def du.oth(h:du w a g k x s S)(t:aa T w w')(O:aB w' a g s')(H:x.p∉T)(h1:x.l∉T)(I:x.q∉T):du w' a g k x s' S:=
 {h with p:=t.blk h.p H,ki:={h.ki with ar:=O,lk:=t.blk h.ki.lk h1,sp:=h.ki.sp.turns t I}}
def lj(h:du w a g k x s S)(H:k≠0):E 244 #[↑x.p] w λe w'=>e= returned (bool true)/\w=w':=by
 have c0:w.cell? x.p=some (J (k:Int)):=h.p.cell 0;have u0:((k:Int) !=0)=true:=by simpa using H
 clear h;go_enter func244,ntmps244;exact aab
def zw(h:KIs w a g 2 x s S)(C:kQ 2 x s S B)(i:Nat)(p:Sp)(H:S[i]? =some p)(hc:pcK 2 p):E 418 #[↑x.l,J i] w (dF w a g 2 x s S i p):=by
  have I:=C.sp H;have Y:=C.ops;have hB:=C.B1;have Kd:=C.B0;have V:=C.w.ld ahp x.t;have O:p.pc=0\/p.pc=1\/p.pc=2\/p.pc=10\/p.pc=11:=hc;obtain⟨pc,u,b,z⟩:=p;have a0:=I.a0;have a1:=I.a1;simp only at O a0 a1;rcases O with rfl|rfl|rfl|rfl|rfl
  . exact pv h i _ H (.inl rfl)
  . exact wB h i u b z H Y C.inr V.1 ahp
  . exact wC h i u b z H Y
  . exact pv h i _ H (.inr rfl)
  . exact ue h i u b z H Y ahp ahp
def zv(h:KIs w a g 1 x s S)(C:kQ 1 x s S B)(i:Nat)(p:Sp)(H:S[i]? =some p)(hc:pcK 1 p):E 410 #[↑x.l,J i] w (dF w a g 1 x s S i p):=by
  have I:=C.sp H;have Y:=C.ops;have V:=C.B1;have O:p.pc=0\/p.pc=1\/p.pc=2\/p.pc=10\/p.pc=11:=hc;obtain⟨pc,u,b,z⟩:=p;have a0:=I.a0;have a1:=I.a1;have b0:=I.b0;have b1:=I.b1;simp only at O a0 a1 b0 b1;rcases O with rfl|rfl|rfl|rfl|rfl
  . exact qx h i _ H (.inl rfl)
  . exact zt h i u b z H Y a0 ahp
  . exact zu h i u b z H ahp ahp
  . exact qx h i _ H (.inr rfl)
  . exact wy h i u b z H Y
def zr(h:KIs w a g 3 x s S)(C:kQ 3 x s S B)(i:Nat)(p:Sp)(H:S[i]? =some p)(hc:pcK 3 p):E 430 #[↑x.l,J i] w (dF w a g 3 x s S i p):=by
  have I:=C.sp H;have Y:=C.ops;have hB:=C.B1;have Kd:=C.B0;have V:=C.w.ld ahp x.t;have O:p.pc=0\/p.pc=1\/p.pc=2\/p.pc=10\/p.pc=11:=hc;obtain⟨pc,u,b,z⟩:=p;have a0:=I.a0;have a1:=I.a1;simp only at O a0 a1;rcases O with rfl|rfl|rfl|rfl|rfl
  . exact pu h i _ H (.inl rfl)
  . exact wv h i u b z H Y C.inr V.1 ahp
  . exact ww h i u b z H Y ⟨a0,by omega⟩
  . exact pu h i _ H (.inr rfl)
  . exact ud h i u b z H Y ⟨a0,by omega⟩
def CT(h:KIs w a g 5 x s S)(C:kQ 5 x s S B)(i:Nat)(p:Sp)(H:S[i]? =some p)(hc:pcK 5 p):E 454 #[↑x.l,J i] w (dF w a g 5 x s S i p):=by
  have I:=C.sp H;have Y:=C.ops;have V:=C.B1;have O:p.pc=0\/p.pc=1\/p.pc=2\/p.pc=3\/p.pc=10\/p.pc=11:=hc;obtain⟨pc,u,b,z⟩:=p;have a0:=I.a0;have a1:=I.a1;have b1:=I.b1;have b2:=I.b2 ahr;simp only at O a0 a1 b1 b2;rcases O with rfl|rfl|rfl|rfl|rfl|rfl
  . exact qw h i _ H (.inl rfl)
  . exact zo h i u b z H Y ⟨a0,by omega⟩
  . exact zp h i u b z H Y ⟨a0,by omega⟩
  . exact zq h i u b z H Y ⟨b2,by omega⟩
  . exact qw h i _ H (.inr rfl)
  . exact wu h i u b z H Y ⟨a0,by omega⟩
def rZ(h:KIs w a g 2 x s S)(i:Nat)(p:Sp)(H:S[i]? =some p):E 417 #[↑x.l,J i] w λe w'=>e= returned (aC p)/\Below w.heap.size w w':=by refine aiU ?_;intro b1;have h1:=h.below b1;have O:=qh (ee .ticket h1 i p H);have HB:=qh b1;clear h h1 H b1;go_enter func417,ntmps417;go_wp2_with (go_at_call 419;refine(eh _ _).mono ?_;rintro e w' ⟨rfl,rfl⟩);go_wp2_with fail;refine ST O.o λw2 b2=>?_;exact rG
def zO(w:World)(a g k:Nat)(x:Fx)(s:Ar)(S:List Sp)(i:Nat)(p:Sp)(e:Ending)(w':World):Prop:=
 e= returned (bool (bo p (bK k x.t x.m s i p).2))/\du w' a g k x (bK k x.t x.m s i p).1 (S.set i (bK k x.t x.m s i p).2)/\aa [a,g,x.q] w w'
def Fe(w:World)(a g k:Nat)(x:Fx)(s:Ar)(S:List Sp)(i:Nat)(p:Sp)(e:Ending)(w':World):Prop:=
 e= returned (bool (cy k x.t s i p).2)/\du w' a g k x (cy k x.t s i p).1 S/\aa [a,g,x.q] w w'
def iH(h:P:=by
    unfold ifV at c1
    clear h hp
    first
      | go_enter func241,ntmps241
      | go_enter func248,ntmps248
      | go_enter func245,ntmps245
      | go_enter func247,ntmps247
    go_wp2_with fail
    refine HM.o.mono ?_
    rintro en w1 ⟨rfl,rfl⟩
    go_wp2_with fail
    refine H2.o.mono ?_
    rintro en w2 ⟨rfl,k2,t2⟩
    have H3:=qh (And.intro k2 t2)
    clear k2 t2
    go_wp2
    go_ret
    first
      | exact⟨rfl,H.o.to H3.o.2 H3.o.1,H3.o.2⟩
      | exact⟨rfl,H.o.to (aH H3.o.2) H3.o.1,H3.o.2⟩):P:=h
def uV(h:du w a g k x s S)(hk:KOk k)(i:Nat)(p:Sp)(hp:S[i]? =some p):E 241 #[↑x.p,J i] w λe w'=>e= returned (bool (decide (p.pc=0)))/\du w' a g k x s (S.set i (askK k p))/\aa [x.q] w w':=by
  refine ajC ?_;intro HM c1 H;rcases hk with rfl|rfl|rfl|rfl|rfl
  . have H2:=qh (Df h.ki i p hp);exact iH
  . have H2:=qh (uz h.ki i p hp);exact iH
  . have H2:=qh (uy .parted h.ki i p hp);exact iH
  . have H2:=qh (uy .mcs h.ki i p hp);exact iH
  . have H2:=qh (uy .clh h.ki i p hp);exact iH
def oC(h:du w a g k x s S)(hk:KOk k)(i:Nat)(p:Sp)(hp:S[i]? =some p):E 248 #[↑x.p,J i] w λe w'=>e= returned (bool (decide (p.pc=10)))/\du w' a g k x s (S.set i (bm p))/\aa [x.q] w w':=by
  refine ajC ?_;intro HM c1 H;rcases hk with rfl|rfl|rfl|rfl|rfl
  . have H2:=qh (yH h.ki i p hp);exact iH
  . have H2:=qh (q7 h.ki i p hp);exact iH
  . have H2:=qh (oH .parted h.ki i p hp);exact iH
  . have H2:=qh (oH .mcs h.ki i p hp);exact iH
  . have H2:=qh (oH .clh h.ki i p hp);exact iH
def qO(h:du w a g k x s S)(hk:KOk k)(i:Nat)(p:Sp)(hp:S[i]? =some p)(C:kQ k x s S B)(hc:pcK k p):E 245 #[↑x.p,J i] w (zO w a g k x s S i p):=by
  refine ajC ?_;intro HM c1 H;rcases hk with rfl|rfl|rfl|rfl|rfl
  . have H2:=qh (zv h.ki C i p hp hc);exact iH
  . have H2:=qh (zw h.ki C i p hp hc);exact iH
  . have H2:=qh (zr h.ki C i p hp hc);exact iH
  . have H2:=qh (CU h.ki C i p hp hc);exact iH
  . have H2:=qh (CT h.ki C i p hp hc);exact iH
def Bj(h:du w a g k x s S)(hk:KOk k)(i:Nat)(p:Sp)(hp:S[i]? =some p)(C:kQ k x s S B)(hc:p.pc=10):E 247 #[↑x.p,J i] w (Fe w a g k x s S i p):=by
  refine ajC ?_;intro HM c1 H;rcases hk with rfl|rfl|rfl|rfl|rfl
  . have H2:=qh (uw h.ki i p hp hc);exact iH
  . have H2:=qh (ux h.ki i p hp hc C.ops (by have:=(C.sp hp).a0;omega) (by have:=(C.sp hp).a1;have:=C.B1;omega));exact iH
  . have H2:=qh (qD h.ki i p hp hc C.ops ⟨(C.sp hp).a0,by have:=(C.sp hp).a1;have:=C.B1;omega⟩);exact iH
  . have H2:=qh (xX h.ki i p hp hc C.ops);exact iH
  . have H2:=qh (xW h.ki i p hp hc C.ops);exact iH
def Bi(h:P:=by
    unfold ifV at c1
    clear h h1 hp b1
    go_enter func360,ntmps360
    go_wp2_with fail
    refine HM.o.mono ?_
    rintro en w1 ⟨rfl,rfl⟩
    go_wp2_with fail
    refine HS.o.mono ?_
    rintro en w2 ⟨rfl,b2⟩
    exact rG):P:=h
def xi(h:du w a g k x s S)(hk:KOk k)(i:Nat)(p:Sp)(hp:S[i]? =some p):E 360 #[↑x.p,J i] w λe w'=>e= returned (aC p)/\Below w.heap.size w w':=by
  have H:=h.p.lt;refine aiU ?_;intro b1;have h1:=h.below b1;have c1:(w.alloc (cells #[J 0,J 0,J 0,J 0] 113)).cell? ⟨x.p,1,none⟩=some (ifV k x.l):=h1.p.cell 1;have HM:=qh (lj h1 ahZ);have HB:=qh b1;rcases hk with rfl|rfl|rfl|rfl|rfl
  . have HS:=qh (ee .tas h1.ki i p hp);exact Bi
  . have HS:=qh (rZ h1.ki i p hp);exact Bi
  . have HS:=qh (ee .parted h1.ki i p hp);exact Bi
  . have HS:=qh (ee .mcs h1.ki i p hp);exact Bi
  . have HS:=qh (ee .clh h1.ki i p hp);exact Bi
end
end
section
open Go
variable{p p' t q:Sp}{G':List Sp}
def dm(p q:Sp):Prop:=
 (p.pc=0/\q.pc=0)\/(p.pc=1/\0<q.pc/\q.pc<10)\/
  ((p.pc=2\/p.pc=3\/p.pc=4\/p.pc=10\/p.pc=11\/p.pc=12\/p.pc=13\/p.pc=14\/p.pc=15)/\q.pc=10)\/(p.pc=16/\10<q.pc)
def jU{k:Nat}{t m:Int}{s:Ar}{i:Int}(h:1<=k/\k<=5)(hc:pcK k p):pcK k (bK k t m s i p).2/\(0<p.pc->p.pc<10->0<(bK k t m s i p).2.pc/\(bK k t m s i p).2.pc<=10)/\(10<p.pc->(bK k t m s i p).2.pc=0\/10<(bK k t m s i p).2.pc):=by
  unfold bK;split;. rename_i h1;subst h1;obtain⟨pc,u,b,z⟩:=p;simp only[pcK,iQ,reduceIte,show ¬(1=4)by decide,show ¬(1=5)by decide]at hc ⊢;unfold wE;rcases hc with rfl|rfl|rfl|rfl|rfl<;>simp<;>split<;>simp<;>omega
  split;. rename_i h1;subst h1;obtain⟨pc,u,b,z⟩:=p;simp only[pcK,iQ,reduceIte,show ¬(2=4)by decide,show ¬(2=5)by decide]at hc ⊢;unfold pC;rcases hc with rfl|rfl|rfl|rfl|rfl<;>simp<;>split<;>simp<;>omega
  split;. rename_i h1;subst h1;obtain⟨pc,u,b,z⟩:=p;simp only[pcK,iQ,reduceIte,show ¬(3=4)by decide,show ¬(3=5)by decide]at hc ⊢;unfold oY;rcases hc with rfl|rfl|rfl|rfl|rfl<;>simp<;>split<;>simp<;>omega
  split
  . rename_i h1;subst h1;obtain⟨pc,u,b,z⟩:=p;simp only[pcK,iQ,reduceIte]at hc ⊢;unfold mr;split;. unfold eG;(repeat' split)<;>simp_all<;>omega
    split;. unfold dK;(repeat' split)<;>simp_all<;>omega
    . simp only;omega
  . obtain rfl:k=5:=by omega
    obtain⟨pc,u,b,z⟩:=p;simp only[pcK,iQ,reduceIte,show ¬(5=4)by decide]at hc ⊢;unfold uJ;rcases hc with rfl|rfl|rfl|rfl|rfl|rfl<;>simp<;>split<;>simp<;>omega
def qG(h:0<p.pc)(h1:p.pc<10)(H:0<p'.pc):bo p p'=decide (p'.pc=10):=by
 unfold bo;have:¬p.pc=0:=by omega
 have:¬p.pc=10:=by omega
 have:¬p'.pc=0:=by omega
 simp[*]
def nK(h:10<p.pc)(H:p'.pc=0\/10<p'.pc):bo p p'=decide (p'.pc=0):=by
 unfold bo;have:¬p.pc=0:=by omega
 have:¬p.pc=10:=by omega
 have:¬p'.pc=10:=by omega
 simp[*]
def mV{k:Nat}(h:p.pc=0):(askK k p).pc=1:=by unfold askK;rw[if_pos h];split<;>rfl
def mo(h:p.pc=10):(bm p).pc=11:=by unfold bm;rw[if_pos h]
def nE{k:Nat}(hc:pcK k p):pcK k (askK k p):=by
 by_cases h:p.pc=0;.have e:=mV (k:=k) h;unfold pcK iQ;rw[e];exact aaI
 .unfold askK;rw[if_neg h];exact hc
def jk{k:Nat}(hc:pcK k p):pcK k (bm p):=by
 by_cases h:p.pc=10;.have e:=mo h;unfold pcK iQ;rw[e];exact aaI
 .unfold bm;rw[if_neg h];exact hc
section
variable (c:CoC)(st:Co)(i:Nat)(u b z:Int)
def mv1:db c st i ⟨1,u,b,z⟩=((stL c st i).1,st.G,setL c st i (stL c st i).2,if lK c st i then⟨2,u,b,z⟩else⟨1,u,b,z⟩):=rfl
def mv2:db c st i ⟨2,u,b,z⟩=if 0<ldW st.s.W (c.cw (c.node i))then(af st.s (c.cw (c.node i)),st.G,st.L,⟨10,ldW st.s.W (c.cw (c.node i)),b,z⟩)
    else(af st.s (c.cw (c.node i)),st.G.set (c.node i) (askK c.kg (sv st.G (c.node i))),st.L,⟨3,ldW st.s.W (c.cw (c.node i)),b,z⟩):=rfl
def mv3:db c st i ⟨3,u,b,z⟩=((stG c st i).1,st.G.set (c.node i) (stG c st i).2,st.L,if nJ c st i then⟨4,u,b,z⟩else⟨3,u,b,z⟩):=rfl
def mv4:db c st i ⟨4,u,b,z⟩=(ae st.s (c.cw (c.node i)) 1,st.G,st.L,⟨10,1,b,z⟩):=rfl
def F2:db c st i ⟨11,u,b,z⟩=(af st.s (c.cw (c.node i)),st.G,st.L,⟨if c.bud<ldW st.s.W (c.cw (c.node i))then 14 else 12,ldW st.s.W (c.cw (c.node i)),b,z⟩):=rfl
def F3:db c st i ⟨12,u,b,z⟩=((cy c.kl (c.tl (c.node i)) st.s (c.slot i) (lsp st.L (c.node i) (c.slot i))).1,st.G,st.L,
    ⟨if mJ u c.bud (cy c.kl (c.tl (c.node i)) st.s (c.slot i) (lsp st.L (c.node i) (c.slot i))).2 then 13 else 14,u,b,z⟩):=rfl
def F4:db c st i ⟨13,u,b,z⟩=(ae st.s (c.cw (c.node i)) (u+1),st.G,setL c st i (bm (lsp st.L (c.node i) (c.slot i))),⟨16,u,b,z⟩):=rfl
def F5:db c st i ⟨14,u,b,z⟩=(ae st.s (c.cw (c.node i)) 0,st.G.set (c.node i) (bm (sv st.G (c.node i))),st.L,⟨15,u,b,z⟩):=rfl
def F6:db c st i ⟨15,u,b,z⟩=if nJ c st i then((stG c st i).1,st.G.set (c.node i) (stG c st i).2,setL c st i (bm (lsp st.L (c.node i) (c.slot i))),⟨16,u,b,z⟩)
    else((stG c st i).1,st.G.set (c.node i) (stG c st i).2,st.L,⟨15,u,b,z⟩):=rfl
def F7:db c st i ⟨16,u,b,z⟩=((stL c st i).1,st.G,setL c st i (stL c st i).2,if lK c st i then⟨0,u,b,z⟩else⟨16,u,b,z⟩):=rfl
end
structure CoV(c:CoC)(n:Nat)(st:Co):Prop where
 g:∀p∈st.G,pcK c.kg p
 l:∀x∈st.L,∀p∈x,pcK c.kl p
 k:∀i,i<n->dm (sv st.T i) (lsp st.L (c.node i) (c.slot i))
 lT:n<=st.T.length
 lG:∀i,i<n->c.node i<st.G.length
 lL:∀i,i<n->c.node i<st.L.length/\c.slot i<(st.L.getD (c.node i) []).length
def Inj(c:CoC)(n:Nat):Prop:=∀i j,i<n->j<n->c.node i=c.node j->c.slot i=c.slot j->i=j
def tp{L:List (List Sp)}{i:Nat}(I:n<L.length)(hi:i<(L.getD n []).length)(m j:Nat):lsp (jI L n i p) m j=if n=m/\i=j then p else lsp L m j:=by
 unfold lsp jI;rw[List.getD_eq_getElem?_getD (l:=L.set _ _),List.getElem?_set];by_cases h1:n=m
 .subst h1;rw[if_pos rfl,if_pos I];show(List.set _ _ _).getD _ _=_;rw[List.getD_eq_getElem?_getD,List.getElem?_set];by_cases H:i=j;.subst H;rw[if_pos rfl,if_pos hi,if_pos ⟨rfl,rfl⟩];rfl
  .rw[if_neg H,if_neg (λh=>H h.2),List.getD_eq_getElem?_getD (l:=L.getD n [])]
 .rw[if_neg h1,if_neg (λh=>h1 h.1),List.getD_eq_getElem?_getD (l:=L)]
def oK(L:List (List Sp))(n i:Nat)(p:Sp)(m:Nat):((jI L n i p).getD m []).length=(L.getD m []).length/\(jI L n i p).length=L.length:=by
 refine⟨?_,by unfold jI;simp⟩;unfold jI;rw[List.getD_eq_getElem?_getD,List.getElem?_set];by_cases h1:n=m
 .subst h1;rw[if_pos rfl];split;.simp
  .rename_i h;rw[List.getD_eq_getElem?_getD,List.getElem?_eq_none ahp]
 .rw[if_neg h1,List.getD_eq_getElem?_getD]
section
variable{c:CoC}{st:Co}
def CoV.lpc(h:CoV c n st){i:Nat}(hi:i<n):pcK c.kl (lsp st.L (c.node i) (c.slot i)):=by
 obtain⟨h1,H⟩:=h.lL i hi;have I:st.L.getD (c.node i) []∈st.L:=by exact aaJ
 have O:lsp st.L (c.node i) (c.slot i)∈st.L.getD (c.node i) []:=by unfold lsp;rw[List.getD_eq_getElem?_getD (l:=st.L.getD _ _),List.getElem?_eq_getElem H];exact List.getElem_mem H
 exact h.l _ I _ O
def CoV.gpc(h:CoV c n st){i:Nat}(hi:i<n):pcK c.kg (sv st.G (c.node i)):=by have h1:=h.lG i hi;refine h.g _ ?_;unfold sv;exact aaJ
def CoV.thr(h:CoV c n st)(O:Inj c n){i:Nat}(hi:i<n)(hl:dm t q)(j:Nat)(I:j<n)(H:List (List Sp))(V:lsp H (c.node i) (c.slot i)=q)(Y:∀m s,¬(c.node i=m/\c.slot i=s)->lsp H m s=lsp st.L m s):dm (sv (st.T.set i t) j) (lsp H (c.node j) (c.slot j)):=by
  rw[cJ];by_cases e:i=j;. subst e;rw[if_pos ⟨rfl,by have:=h.lT;omega⟩,V];exact hl
  . rw[if_neg (λk=>e k.1),Y _ _ (λk=>e (O i j hi I k.1 k.2))];exact h.k j I
def CoV.upd(h:CoV c n st)(Y:Inj c n){i:Nat}(hi:i<n)(s':Ar)(V:∀p∈G',pcK c.kg p)(O:G'.length=st.G.length)(hq:pcK c.kl q)(hl:dm t q):CoV c n ⟨s',G',setL c st i q,st.T.set i t⟩:=by
 obtain⟨h1,I⟩:=h.lL i hi;refine⟨V,?_,λj H=>h.thr Y hi hl j H _ ?_ ?_,by simpa using h.lT,λj H=>by rw[O];exact h.lG j H,λj H=>?_⟩;.exact eg h.l _ (eg (h.l _ (by rw[List.getD_eq_getElem?_getD,List.getElem?_eq_getElem h1];exact List.getElem_mem h1)) _ hq)
 .unfold setL;rw[tp h1 I,if_pos ⟨rfl,rfl⟩]
 .intro m s hn;unfold setL;rw[tp h1 I,if_neg hn]
 .unfold setL;rw[(oK _ _ _ _ _).1,(oK _ _ _ _ 0).2];exact h.lL j H
def CoV.upd0(h:CoV c n st)(V:Inj c n){i:Nat}(hi:i<n)(s':Ar)(O:∀p∈G',pcK c.kg p)(I:G'.length=st.G.length)(Y:dm t (lsp st.L (c.node i) (c.slot i))):CoV c n ⟨s',G',st.L,st.T.set i t⟩:=
 ⟨O,h.l,λj H=>h.thr V hi Y j H _ rfl (λ_ _ _=>rfl),by simpa using h.lT,λj H=>by rw[I];exact h.lG j H,h.lL⟩
def sB(h:CoV c n st)(hI:Inj c n)(hk:(1<=c.kg/\c.kg<=5)/\1<=c.kl/\c.kl<=5){i:Nat}(hi:i<n):CoV c n (am c st i):=by
 have H:=h.k i hi;have O:=h.lpc hi;have hg:=h.gpc hi;have sL:=jU (t:=c.tl (c.node i)) (m:=c.m) (s:=st.s) (i:=(c.slot i:Int)) hk.2 O;have sG:=jU (t:=c.tg) (m:=c.m) (s:=st.s) (i:=(c.node i:Int)) hk.1 hg;have V:∀q:Sp,(st.G.set (c.node i) q).length=st.G.length:=λq=>by simp
 have Y:∀q:Sp,pcK c.kg q->∀p∈st.G.set (c.node i) q,pcK c.kg p:=λq O=>eg h.g _ O;unfold am;split;.exact h
 rename_i E';obtain⟨p,hp⟩:=LE (sv st.T i);rw[<-hp]at H E' ⊢;obtain⟨q,Py⟩:=LE (lsp st.L (c.node i) (c.slot i));have hc:p.pc=1\/p.pc=2\/p.pc=3\/p.pc=4\/p.pc=11\/p.pc=12\/p.pc=13\/p.pc=14\/p.pc=15\/p.pc=16:=by unfold dm at H;omega
 obtain⟨pc,u,b,z⟩:=p;simp only at hc;have LR:pc≠0->pc≠1->pc≠16->(lsp st.L (c.node i) (c.slot i)).pc=10:=λa0 a1 a2=>by unfold dm at H;simp only at H;omega
 have lk:∀t:Sp,(t.pc=2\/t.pc=3\/t.pc=4\/t.pc=10\/t.pc=11\/t.pc=12\/t.pc=13\/t.pc=14\/t.pc=15)->∀q:Sp,q.pc=10->dm t q:=λt ht q O=> .inr (.inr (.inl ⟨ht,O⟩))
 have ab:∀t:Sp,t.pc=16->dm t (bm (lsp st.L (c.node i) (c.slot i)))\/(lsp st.L (c.node i) (c.slot i)).pc≠10:=λt ht=>by
  by_cases e:(lsp st.L (c.node i) (c.slot i)).pc=10;.left;exact .inr (.inr (.inr ⟨ht,by rw[mo e];decide⟩))
  .right;exact e
 have Xk:∀t:Sp,t.pc=16->(lsp st.L (c.node i) (c.slot i)).pc=10->dm t (bm (lsp st.L (c.node i) (c.slot i))):=λt ht e=>(ab t ht).resolve_right (λk=>k e);rcases hc with rfl|rfl|rfl|rfl|rfl|rfl|rfl|rfl|rfl|rfl
 .have I:0<(lsp st.L (c.node i) (c.slot i)).pc/\(lsp st.L (c.node i) (c.slot i)).pc<10:=by unfold dm at H;simp only at H;omega
  have s2:=sL.2.1 I.1 I.2;have ec:lK c st i=decide ((stL c st i).2.pc=10):=qG I.1 I.2 s2.1;rw[mv1];refine h.upd hI hi _ h.g rfl sL.1 ?_;show dm (if lK c st i then _ else _) _;rw[ec];split;.rename_i e;exact lk _ (.inl rfl) _ ahE
  .rename_i e;refine .inr (.inl ⟨rfl,s2.1,?_⟩);have:¬(stL c st i).2.pc=10:=(by simpa using e);have:=s2.2;show(stL c st i).2.pc<10;unfold stL at *;omega
 .rw[mv2];split;.exact aaK
  .exact h.upd0 hI hi _ (Y _ (nE hg)) (V _) (lk _ ahq _ (LR ahr ahr ahr))
 .rw[mv3];refine h.upd0 hI hi _ (Y _ sG.1) (V _) ?_;show dm (if nJ c st i then _ else _) _;split<;>exact lk _ ahq _ (LR ahr ahr ahr)
 .rw[mv4];exact aaK
 .rw[F2];exact aaL
 .rw[F3];exact aaL
 .rw[F4];exact h.upd hI hi _ h.g rfl (jk O) (Xk _ rfl (LR ahr ahr ahr))
 .rw[F5];exact h.upd0 hI hi _ (Y _ (jk hg)) (V _) (lk _ ahq _ (LR ahr ahr ahr))
 .rw[F6];split;.exact h.upd hI hi _ (Y _ sG.1) (V _) (jk O) (Xk _ rfl (LR ahr ahr ahr))
  .exact h.upd0 hI hi _ (Y _ sG.1) (V _) (lk _ ahq _ (LR ahr ahr ahr))
 .have I:10<(lsp st.L (c.node i) (c.slot i)).pc:=by unfold dm at H;simp only at H;omega
  have s2:=sL.2.2 I;have ec:lK c st i=decide ((stL c st i).2.pc=0):=nK I s2;rw[F7];refine h.upd hI hi _ h.g rfl sL.1 ?_;show dm (if lK c st i then _ else _) _;rw[ec];split;.rename_i e;exact .inl ⟨rfl,by simpa using e⟩
  .rename_i e;refine .inr (.inr (.inr ⟨rfl,?_⟩));have:¬(stL c st i).2.pc=0:=(by simpa using e);show 10<(stL c st i).2.pc;unfold stL at *;omega
def xa(h:CoV c n st)(O:Inj c n){i:Nat}(hi:i<n):CoV c n (bI c st i):=by
 unfold bI;split
 .rename_i e;have I:=h.k i hi;have H:(lsp st.L (c.node i) (c.slot i)).pc=0:=by unfold dm at I;omega
  exact h.upd O hi _ h.g rfl (nE (h.lpc hi)) (.inr (.inl ⟨rfl,by rw[mV H];decide,by rw[mV H];decide⟩))
 .exact h
def pZ(h:CoV c n st)(I:Inj c n){i:Nat}(hi:i<n):CoV c n (aA st i):=by
 unfold aA;split;.rename_i e;have H:=h.k i hi;exact h.upd0 I hi _ h.g rfl (.inr (.inr (.inl ⟨by simp,by unfold dm at H;omega⟩)))
 .exact h
end
end
section
open Go
def eE(s s':Ar):Prop:=s'.ops<=s.ops+1/\s'.W.length=s.W.length
def eE.refl(s:Ar):eE s s:=⟨by omega,rfl⟩
def gb(s:Ar)(x:Int):eE s (af s x):=⟨iP _ _,by rw[aP]⟩
def iS(s:Ar)(x v:Int):eE s (ae s x v):=⟨hY _ _ _,by rw[ay,bJ]⟩
def Ci(s:Ar)(x v:Int):eE s (ch s x v):=⟨eU _ _ _,by rw[dN,bJ]⟩
def ln(s:Ar)(x v:Int):eE s (addA s x v):=⟨jz _ _ _,by rw[dX,bJ]⟩
def Ej(s:Ar)(x o v:Int):eE s (dU s x o v):=⟨nL _ _ _ _,by rw[gO];split<;>simp[bJ]⟩
def cZ(k:Nat)(t m:Int)(s:Ar)(i:Int)(p:Sp):eE s (bK k t m s i p).1:=by unfold bK wE pC oY mr eG dK uJ;(repeat' split)<;>(try dsimp only)<;>first|with_reducible exact eE.refl _|with_reducible exact gb _ _|with_reducible exact iS _ _ _|with_reducible exact Ci _ _ _|with_reducible exact ln _ _ _|with_reducible exact Ej _ _ _ _
def tO(k:Nat)(t:Int)(s:Ar)(i:Int)(p:Sp):eE s (cy k t s i p).1:=by unfold cy;(repeat' split)<;>(try dsimp only)<;>first|with_reducible exact eE.refl _|with_reducible exact gb _ _
section
variable{c:CoC}{st:Co}
def yX(i:Nat)(p:Sp):eE st.s (db c st i p).1:=by unfold db Ax sA stL stG;(repeat' split)<;>(try dsimp only)<;>first|with_reducible exact eE.refl _|with_reducible exact gb _ _|with_reducible exact iS _ _ _|with_reducible exact cZ _ _ _ _ _ _|with_reducible exact tO _ _ _ _ _
def mH(i:Nat):eE st.s (am c st i).s:=by
 unfold am;split;.exact eE.refl _
 .exact yX _ _
def vz(i:Nat):eE st.s (bI c st i).s:=by unfold bI;split<;>exact eE.refl _
def rv(i:Nat):eE st.s (aA st i).s:=by unfold aA;split<;>exact eE.refl _
def yx(h:CoB c B st)(I:1<=B)(H:B<=10000000000000)(i:Nat)(hs:(c.slot i:Int)+1<=B)(O:(c.node i:Int)+1<=B)(hm:1<=c.m/\c.m<=B):CoB c (B+2) (am c st i):=by
 unfold am;split;.exact h.mono ahp
 .exact Du h I H i hs O hm _ (h.tsp ahp i)
def Aw(h:CoB c B st)(I:1<=B)(i:Nat):CoB c (B+2) (bI c st i):=by
 unfold bI;split;.have H:=h.mono (C:=B+2) ahp;exact⟨H.w,H.g,H.setL _ _ (uA (H.lsp ahp _ _) ahp),eg H.t i (H.tsp ahp i)⟩
 .exact h.mono ahp
def uK(h:CoB c B st)(I:1<=B)(i:Nat):CoB c (B+2) (aA st i):=by
 unfold aA;split;.have H:=h.mono (C:=B+2) ahp;exact⟨H.w,H.g,H.l,eg H.t i (H.tsp ahp i)⟩
 .exact h.mono ahp
end
end
end Go.Proofs.YtglokdbiggbkjaaGreat
