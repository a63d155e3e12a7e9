/- Joined texts. -/
import Derived.Deep.AppendLies
import Derived.Deep.RegionHeld3
import Derived.BigRegion
import Derived.Test.YtglokdbiggbkjaaGreatMgWholeRefuses0
import Derived.Test.YtglokdbiggbkjaaGreatMgWholeRefuses3
import Derived.Test.YtglokdbiggbkjaaGreatMgWholeRefuses5
import Derived.Test.YtglokdbiggbkjaaGreatMgWholeRefuses7
set_option linter.unusedVariables false
set_option linter.unusedSimpArgs false
set_option linter.defProp false
set_option maxRecDepth 100000
set_option maxHeartbeats 16000000
open Go.Proofs.Tryz
namespace Go.Proofs.YtglokdbiggbkjaaGreat
open Go.IntKind(i64)
open Go.Value(int bool slice agg tuple pointer)
open Go.Ending(returned)
open Go.Obj(cells)
variable{k a q i:Nat}{f1:FuncId}{w':World}
section
open Go.RowKit
variable{Q:Prop}
inductive FlG:Nat->FuncId->FuncId->FuncId->Prop
 |tas:FlG 1 408 411 409
 |ticket:FlG 2 424 423 422
 |parted:FlG 3 428 434 429
 |mcs:FlG 4 439 444 440
 |clh:FlG 5 452 456 453
inductive FlF:Nat->FuncId->FuncId->FuncId->FuncId->Prop
 |parted:FlF 3 434 433 426 427
 |mcs:FlF 4 444 443 437 438
 |clh:FlF 5 456 455 450 451
def FlF.g{h H I:FuncId}(K:FlF k f1 h H I):∃a b,FlG k a f1 b:=by cases K<;>exact⟨_,_,by constructor⟩
section
variable{w:World}{g:Nat}{x:Fx}{s:Ar}{S:List Sp}{f2 f3 f4:FuncId}
def slC(k:Nat):Nat:=if k=2 then 0 else if k<=3 then 3 else 2
def BZ(K:FlG k f1 f2 f3)(h:KIs w a g k x s S):∃c,Z w x.l c (slice (some ⟨x.q,0,none⟩) x.n x.cap)/\c=slC k:=by
 cases K;.exact⟨3,h.lk.cell 3,rfl⟩
 .exact⟨0,h.lk.cell 0,rfl⟩
 .exact⟨3,h.lk.cell 3,rfl⟩
 .exact⟨2,h.lk.cell 2,rfl⟩
 .exact⟨2,h.lk.cell 2,rfl⟩
def B5(K:FlG k f1 f2 f3)(h:KIs w a g k x s S):Calls prog f1 #[↑x.l] w λe w'=>e= returned (J x.n)/\w=w':=by
 obtain⟨c,c2,hc⟩:=BZ K h;clear h;cases K
 all_goals
  simp[slC]at hc;subst hc;first|go_enter func408,ntmps408|go_enter func424,ntmps424|go_enter func428,ntmps428|go_enter func439,ntmps439|go_enter func452,ntmps452
  go_wp2;go_ret;exact⟨rfl,rfl⟩
def bE(K:FlG k f1 f2 f3)(h:KIs w a g k x s S)(i:Nat)(hi:i<x.n):Calls prog f2 #[↑x.l,J i] w λe w'=>e= returned (pointer (some ⟨x.q,i*4,none⟩))/\w=w':=by
 obtain⟨c,c2,hc⟩:=BZ K h;have I:=h.n32;have t2:¬(i:Int)<0:=by omega
 have O:¬((x.n:Nat):Int)<=(i:Int):=by omega
 have H:=qh (B5 K h);clear h;cases K
 all_goals
  simp[slC]at hc;subst hc;first|go_enter func411,ntmps411|go_enter func423,ntmps423|go_enter func434,ntmps434|go_enter func444,ntmps444|go_enter func456,ntmps456
  go_wp2_with (refine H.o.mono ?_;rintro e w' ⟨rfl,rfl⟩);go_ret;exact⟨by simp,rfl⟩
def ed(K:FlG k f1 f2 f3)(h:KIs w a g k x s S)(i:Nat)(p:Sp)(hp:S[i]? =some p):Calls prog f3 #[↑x.l,J i] w λe w'=>e= returned (aF p)/\Below w.heap.size w w':=by
 refine aiV ?_;intro hi;refine ai1 ?_;intro a0 a1 a2 a3;have I:=h.sp.lt;have H:=qh (bE K (h.below ((Below.refl _ _).alloc (Nat.le_refl _) (cells #[J 0,J 0,J 0,J 0] 113))) i hi);clear h hp;cases K
 all_goals
  first|go_enter func409,ntmps409|go_enter func422,ntmps422|go_enter func429,ntmps429|go_enter func440,ntmps440|go_enter func453,ntmps453
  go_wp2_with (refine H.o.mono ?_;rintro e w' ⟨rfl,rfl⟩);exact bodyPost_ret (results_cell_row ahI _ _ w.heap.size 113 _ (0,0) _ ahI (heap_alloc_new w _) Tryz.underlying113 rfl ahH) rfl ⟨rfl,(Below.refl _ _).alloc (Nat.le_refl _) _⟩
def rB(K:FlF k f1 f2 f3 f4)(h:KIs w a g k x s S)(i:Nat)(p:Sp)(hp:S[i]? =some p)(I Y:Int):Calls prog f2 #[↑x.l,J i,J I,J Y] w λe w'=>e= returned (bool (decide (p.pc=I)))/\KIs w' a g k x s (if p.pc=I then S.set i {p with pc:=Y} else S)/\aa [x.q] w w':=by
 refine aiV ?_;intro hi;refine akf ?_;intro a0;have f0:=h.sp.free (i*4);obtain⟨_,_,KG⟩:=K.g;have V:=qh (bE KG h i hi);have H:=qh h;have O:=qh hp;clear h hp KG;cases K
 all_goals
  cases hc:(p.pc !=I)
  .have e:p.pc=I:=(by simpa using hc);first|go_enter func433,ntmps433|go_enter func443,ntmps443|go_enter func455,ntmps455
   go_wp2_with (refine V.o.mono ?_;rintro e w' ⟨rfl,rfl⟩);go_ret;exact⟨by first|rfl|(rw[decide_eq_true e];rfl),by first|exact H.o.put0 O.o rfl|(rw[if_pos e];exact H.o.put0 O.o rfl),aV _ _ _⟩
  .have e:¬p.pc=I:=(by simpa using hc);first|go_enter func433,ntmps433|go_enter func443,ntmps443|go_enter func455,ntmps455
   go_wp2_with (refine V.o.mono ?_;rintro e w' ⟨rfl,rfl⟩);go_ret;exact⟨by first|rfl|(rw[decide_eq_false e];rfl),by first|exact H.o|(rw[if_neg e];exact H.o),aa.refl _ _⟩
def mZ(h:Q:=by
    refine⟨rfl,?_,HK.o.2⟩
    have k1:=HK.o.1
    first
      | unfold askK
      | unfold a9
    split
    . rename_i e
      rw[if_pos e]at k1
      exact k1
    . rename_i e
      rw[if_neg e]at k1
      rw[b9 HP.o]
      exact k1):Q:=h
def ue(K:FlF k f1 f2 f3 f4)(h:KIs w a g k x s S)(i:Nat)(p:Sp)(H:S[i]? =some p):Calls prog f3 #[↑x.l,J i] w λe w'=>e= returned (bool (decide (p.pc=0)))/\KIs w' a g k x s (S.set i (askK k p))/\aa [x.q] w w':=by
 have I:=qh (rB K h i p H 0 1);have HP:=qh H;clear h H;cases K
 all_goals
  first|go_enter func426,ntmps426|go_enter func437,ntmps437|go_enter func450,ntmps450
  go_wp2_with (refine I.o.mono ?_;rintro e w' ⟨rfl,k1,t1⟩;have HK:=qh (And.intro k1 t1);clear k1 t1);go_ret;exact mZ
def n5(K:FlF k f1 f2 f3 f4)(h:KIs w a g k x s S)(i:Nat)(p:Sp)(H:S[i]? =some p):Calls prog f4 #[↑x.l,J i] w λe w'=>e= returned (bool (decide (p.pc=10)))/\KIs w' a g k x s (S.set i (a9 p))/\aa [x.q] w w':=by
 have I:=qh (rB K h i p H 10 11);have HP:=qh H;clear h H;cases K
 all_goals
  first|go_enter func427,ntmps427|go_enter func438,ntmps438|go_enter func451,ntmps451
  go_wp2_with (refine I.o.mono ?_;rintro e w' ⟨rfl,k1,t1⟩;have HK:=qh (And.intro k1 t1);clear k1 t1);go_ret;exact mZ
def CE(h:KIs w a g 1 x s S)(i:Nat)(p:Sp)(hp:S[i]? =some p):E 406 #[↑x.l,J i] w λe w'=>e= returned (bool (decide (p.pc=0)))/\KIs w' a g 1 x s (S.set i (askK 1 p))/\aa [x.q] w w':=by
 refine aiV ?_;intro hi;refine akf ?_;intro a0;have a1:=h.sp.cell hp 1 _ rfl;have f0:=h.sp.free (i*4);have f1:=h.sp.free (i*4+1);have H:=qh h;have I:=qh hp;clear h hp;cases hc:(p.pc !=0)
 .have e:p.pc=0:=by simpa using hc
  go_enter func406,ntmps406;go_wp2_with (go_at_call 411;refine(bE .tas H.o i hi).mono ?_;rintro e w' ⟨rfl,rfl⟩);go_ret;have O:=(H.o.put0 I.o (p':={p with pc:=1}) rfl).put (Jp I.o _) (j:=1) (p':={p with pc:=1,a:=1}) ahG rfl;try rw[dV]at O
  refine⟨by first|rfl|(rw[decide_eq_true e];rfl),?_,(aV _ _ _).trans (aV _ _ _)⟩;unfold askK;rw[if_pos e];exact O
 .have e:¬p.pc=0:=by simpa using hc
  go_enter func406,ntmps406;go_wp2_with (go_at_call 411;refine(bE .tas H.o i hi).mono ?_;rintro e w' ⟨rfl,rfl⟩);go_ret;refine⟨by first|rfl|(rw[decide_eq_false e];rfl),?_,aa.refl _ _⟩;unfold askK;rw[if_neg e,b9 I.o];exact H.o
def yh(h:KIs w a g 1 x s S)(i:Nat)(p:Sp)(hp:S[i]? =some p):E 407 #[↑x.l,J i] w λe w'=>e= returned (bool (decide (p.pc=10)))/\KIs w' a g 1 x s (S.set i (a9 p))/\aa [x.q] w w':=by
 refine aiV ?_;intro hi;refine akf ?_;intro a0;have a1:=h.sp.cell hp 1 _ rfl;have f0:=h.sp.free (i*4);have f1:=h.sp.free (i*4+1);have H:=qh h;have I:=qh hp;clear h hp;cases hc:(p.pc !=10)
 .have e:p.pc=10:=by simpa using hc
  go_enter func407,ntmps407;go_wp2_with (go_at_call 411;refine(bE .tas H.o i hi).mono ?_;rintro e w' ⟨rfl,rfl⟩);go_ret;have O:=H.o.put0 I.o (p':={p with pc:=11}) rfl;try rw[dV]at O
  refine⟨by first|rfl|(rw[decide_eq_true e];rfl),?_,aV _ _ _⟩;unfold a9;rw[if_pos e];exact O
 .have e:¬p.pc=10:=by simpa using hc
  go_enter func407,ntmps407;go_wp2_with (go_at_call 411;refine(bE .tas H.o i hi).mono ?_;rintro e w' ⟨rfl,rfl⟩);go_ret;refine⟨by first|rfl|(rw[decide_eq_false e];rfl),?_,aa.refl _ _⟩;unfold a9;rw[if_neg e,b9 I.o];exact H.o
def pK(h:KIs w a g 2 x s S)(i:Nat)(p:Sp)(hp:S[i]? =some p)(pc:Int):E 420 #[↑x.l,J i,J pc] w λe w'=>e= returned (.pointer (if p.pc=pc then some ⟨x.q,i*4,none⟩else none))/\w=w':=by
 refine aiV ?_;intro hi;refine akf ?_;intro a0;have H:=qh h;clear h hp;cases hc:(p.pc !=pc)
 .have e:p.pc=pc:=by simpa using hc
  go_enter func420,ntmps420;go_wp2_with (go_at_call 423;refine(bE .ticket H.o i hi).mono ?_;rintro e w' ⟨rfl,rfl⟩);go_ret;exact⟨by first|rfl|(rw[if_pos e];rfl),rfl⟩
 .have e:¬p.pc=pc:=by simpa using hc
  go_enter func420,ntmps420;go_wp2_with (go_at_call 423;refine(bE .ticket H.o i hi).mono ?_;rintro e w' ⟨rfl,rfl⟩);go_ret;exact⟨by first|rfl|(rw[if_neg e];rfl),rfl⟩
def jX(h:KIs w a g 2 x s S)(i:Nat)(p:Sp)(hp:S[i]? =some p)(I V:Int):E 421 #[↑x.l,J i,J I,J V] w λe w'=>e= returned (bool (decide (p.pc=I)))/\KIs w' a g 2 x s (if p.pc=I then S.set i {p with pc:=V} else S)/\aa [x.q] w w':=by
 have f0:=h.sp.free (i*4);refine akf ?_;intro a0;have O:=qh (pK h i p hp I);have H:=qh h;have Y:=qh hp;clear h hp;by_cases e:p.pc=I;.rw[if_pos e]at O;rw[decide_eq_true e,if_pos e];clear e;go_enter func421,ntmps421;go_wp2_with (go_at_call 420;refine O.o.mono ?_;rintro e w' ⟨rfl,rfl⟩);go_ret;exact⟨rfl,H.o.put0 Y.o rfl,aV _ _ _⟩
 .rw[if_neg e]at O;rw[decide_eq_false e,if_neg e];clear e;go_enter func421,ntmps421;go_wp2_with (go_at_call 420;refine O.o.mono ?_;rintro e w' ⟨rfl,rfl⟩);go_ret;exact aaF
def eg(w:World)(l:Nat):E 419 #[↑l] w λe w'=>e= .returned ↑l/\w=w':=by go_enter func419,ntmps419;exact aaa
def uf(h:KIs w a g 2 x s S)(i:Nat)(p:Sp)(H:S[i]? =some p):E 414 #[↑x.l,J i] w λe w'=>e= returned (bool (decide (p.pc=0)))/\KIs w' a g 2 x s (S.set i (askK 2 p))/\aa [x.q] w w':=by have HT:=qh (jX h i p H 0 1);have HP:=qh H;clear h H;go_enter func414,ntmps414;exact aaG
def qQ(h:KIs w a g 2 x s S)(i:Nat)(p:Sp)(H:S[i]? =some p):E 415 #[↑x.l,J i] w λe w'=>e= returned (bool (decide (p.pc=10)))/\KIs w' a g 2 x s (S.set i (a9 p))/\aa [x.q] w w':=by have HT:=qh (jX h i p H 10 11);have HP:=qh H;clear h H;go_enter func415,ntmps415;exact aaG
def Cl(h:Q:=by
    rintro e w' ⟨rfl,k,t⟩
    rw[if_pos rfl,dV]at k
    exact⟨by rw[decide_eq_true rfl],k,t⟩):Q:=h
def jW(K:FlF k f1 f2 f3 f4)(i:Nat)(p0 p:Sp)(I:S[i]? =some p0)(h:KIs w a g k x s (S.set i p))(H:Int):Calls prog f2 #[↑x.l,J i,J p.pc,J H] w λe w'=>e= returned (bool true)/\KIs w' a g k x s (S.set i {p with pc:=H})/\aa [x.q] w w':=by refine(rB K h i p (Jp I p) p.pc H).mono ?_;exact Cl
def jp(i:Nat)(p0 p:Sp)(I:S[i]? =some p0)(h:KIs w a g 2 x s (S.set i p))(H:Int):E 421 #[↑x.l,J i,J p.pc,J H] w λe w'=>e= returned (bool true)/\KIs w' a g 2 x s (S.set i {p with pc:=H})/\aa [x.q] w w':=by refine(jX h i p (Jp I p) p.pc H).mono ?_;exact Cl
end
end
section
open Go.RowKit
section
variable{w:World}{g:Nat}{x:Fx}{s:Ar}{S:List Sp}
def dB(w:World)(a g k:Nat)(x:Fx)(s:Ar)(S:List Sp)(i:Nat)(p:Sp)(e:Ending)(w':World):Prop:=
 e= returned (bool (bo p (bJ k x.t x.m s i p).2))/\KIs w' a g k x (bJ k x.t x.m s i p).1 (S.set i (bJ k x.t x.m s i p).2)/\aa [a,g,x.q] w w'
def pw(w:World)(a g k:Nat)(x:Fx)(s:Ar)(S:List Sp)(i:Nat)(p:Sp)(e:Ending)(w':World):Prop:=
 e= returned (bool (cB k x.t s i p).2)/\KIs w' a g k x (cB k x.t s i p).1 S/\aa [a,g,x.q] w w'
def aK(h:aa [a,g] w w'):aa [a,g,q] w w':=h.mono ahF
def aI(h:aa [q] w w'):aa [a,g,q] w w':=h.mono ahF
def KIs.ti(h:KIs w a g 2 x s S):Z w x.l 1 ↑a/\Z w x.l 2 (J x.t):=⟨h.lk.cell 1,h.lk.cell 2⟩
def vC(h:KIs w a g 2 x s S)(i:Nat)(u b z:Int)(hp:S[i]? =some (⟨1,u,b,z⟩:Sp))(Y:s.ops+1<=1000000000000)(hw:inR s.W x.t=true)(JO:0<=ldW s.W x.t)(Pj:ldW s.W x.t<=10000000000000):E 418 #[↑x.l,J i] w (dB w a g 2 x s S i ⟨1,u,b,z⟩):=by
  refine aiV ?_;intro hi;refine akf ?_;intro a0;obtain⟨ab,hv⟩:=LE (addA s x.t 1);obtain⟨v,O⟩:=LE (ldW s.W x.t);have HX:Kq (bJ 2 x.t x.m s i ⟨1,u,b,z⟩=(ab,⟨2,v,b,z⟩)):=qh ahQ;have I:=(λW (k:KIs W a g 2 x s S)=>ii k.ar x.t 1 Y);rw[if_pos hw,<-hv,<-O]at I;rw[<-O]at JO Pj;have e1:IntKind.i64.wrap (v+1)=v+1:=IntWalk.i64_in _ ahE;have e2:IntKind.i64.wrap v=v:=IntWalk.i64_in _ ahE;rw[e1]at I;have HO:=qh I;refine ajK ?_;intro HP K0 K1;clear I h hp hv O e1;go_enter func418,ntmps418;go_wp2_with (go_at_call 419;refine(eg _ _).mono ?_;rintro e w' ⟨rfl,rfl⟩);go_wp2_with (go_at_call 423;refine(bE .ticket K0.o i hi).mono ?_;rintro e w' ⟨rfl,rfl⟩)
  go_region_held3 (λW=>Z W x.l 1 ↑a/\Z W x.l 2 (J x.t))
    (first|with_reducible exact K1.o.ti|with_reducible exact H.o.ti|with_reducible exact K3.o.ti)
    (first
      | (go_at_call 298;go_loud (refine Op (HO.o _ K1.o) λw3 V=>?_);have H:=qh (K1.o.op V.o.2 V.o.1);have T2:=qh (((aa.refl [a,g,x.q] w).drew).trans (aK V.o.2));have K3:=qh (H.o.put (p':=(⟨1,v,b,z⟩:Sp)) HP.o (j:=1) (u:= J v) ahG rfl);have e4:=H.o.sp.cell HP.o 1 _ rfl;have z1:=H.o.sp.free (i*4+1)))
  all_goals have HT:=qh (jp i _ _ HP.o K3.o 2);go_wp2_with (go_at_call 421;refine HT.o.mono ?_;rintro e w' ⟨rfl,k4,t4⟩;have K4:=qh (And.intro k4 t4);clear k4 t4);go_ret;rw[dB,HX.o];exact⟨rfl,K4.o.1,(T2.o.trans (aI (aV _ _ _))).trans (aI K4.o.2)⟩
def vD(h:KIs w a g 2 x s S)(i:Nat)(u b z:Int)(hp:S[i]? =some (⟨2,u,b,z⟩:Sp))(Y:s.ops+1<=1000000000000):E 418 #[↑x.l,J i] w (dB w a g 2 x s S i ⟨2,u,b,z⟩):=by
  refine aiV ?_;intro hi;refine akf ?_;intro a0;have t1:=h.t1;obtain⟨ab,hv⟩:=LE (af s ((x.t:Int)+1));obtain⟨v,O⟩:=LE (ldW s.W ((x.t:Int)+1));have HX:Kq (bJ 2 x.t x.m s i ⟨2,u,b,z⟩=(ab,⟨if v=u then 10 else 2,u,b,z⟩)):=qh ahQ;have hr:=(λW (k:KIs W a g 2 x s S)=>aD k.ar ((x.t:Int)+1) Y);rw[<-hv,<-O]at hr;have e1:IntKind.i64.wrap ((x.t:Int)+1)=(x.t:Int)+1:=IntWalk.i64_in _ ahE;refine ai7 ?_;intro HO HC;refine ajK ?_;intro HP K0 K1;clear hr h hp hv O;cases hc:(v==u)
  . go_enter func418,ntmps418;go_wp2_with (go_at_call 419;refine(eg _ _).mono ?_;rintro e w' ⟨rfl,rfl⟩);go_wp2_with (go_at_call 423;refine(bE .ticket K0.o i hi).mono ?_;rintro e w' ⟨rfl,rfl⟩);refine wp_region_held_drew (S:=(λW=>Z W x.l 1 ↑a/\Z W x.l 2 (J x.t)/\Z W x.q (i*4+1) (J u))) ahH (by exact HC.o _ _ _ _ K1.o HP.o) (λhHeld=>?_);refine aja ?_;refine aj9 ?_;refine wpAnyH_ready (rs:=[9]) ahH ahF ?_;refine AllReadyH.cons rfl (λK hK=>?_) AllReadyH.nil;go_simp;go_at_call 173;refine Op (HO.o _ K1.o) λw3 H=>?_;have I:=qh (K1.o.op H.o.2 H.o.1);have T2:=qh (((aa.refl [a,g,x.q] w).drew).trans (aK H.o.2));refine hK.out _ _ ?_ (λhHeld=>?_);. exact HC.o _ _ _ _ I.o HP.o
    clear hK K;try simp only[Act.put,List.setIfInBounds_toArray,List.set_cons_zero,List.set_cons_succ,List.getElem_toArray,List.getElem_cons_zero,List.getElem_cons_succ]
    refine tk 14 ?_;refine tk 15 ?_;refine tk 16 ?_;refine tk 17 ?_;refine tk 18 ?_;refine tk 19 ?_;refine tk 20 ?_;refine tk 21 ?_;refine tk 22 ?_;refine wpAnyH_done ahH ?_ _;go_wp2;go_ret;rw[dB,HX.o];rw[if_neg ahL,b9 HP.o];exact⟨rfl,I.o,T2.o⟩
  . go_enter func418,ntmps418;go_wp2_with (go_at_call 419;refine(eg _ _).mono ?_;rintro e w' ⟨rfl,rfl⟩);go_wp2_with (go_at_call 423;refine(bE .ticket K0.o i hi).mono ?_;rintro e w' ⟨rfl,rfl⟩);first
    | (go_region_held3 (λW=>Z W x.l 1 ↑a/\Z W x.l 2 (J x.t)/\Z W x.q (i*4+1) (J u))
        (first|with_reducible exact HC.o _ _ _ _ K1.o HP.o|with_reducible exact HC.o _ _ _ _ I.o HP.o|with_reducible exact HC.o _ _ _ _ K4.o.1 (Jp HP.o _))
        (first
          | (go_at_call 173;go_loud (refine Op (HO.o _ K1.o) λw3 H=>?_);have I:=qh (K1.o.op H.o.2 H.o.1);have T2:=qh (((aa.refl [a,g,x.q] w).drew).trans (aK H.o.2));have HT:=qh (jp i _ _ HP.o (by rw[b9 HP.o];exact I.o) 10))
          | (go_at_call 421;go_loud (refine Op HT.o λw4 K4=>?_))))
    | fail "held"
    all_goals go_wp2;go_ret;rw[dB,HX.o];rw[if_pos ahL];exact⟨rfl,K4.o.1,T2.o.trans (aI K4.o.2)⟩
def tN(h:KIs w a g 2 x s S)(i:Nat)(u b z:Int)(hp:S[i]? =some (⟨11,u,b,z⟩:Sp))(Y:s.ops+1<=1000000000000)(Tz:-10<=u)(Ph:u<=10000000000000):E 418 #[↑x.l,J i] w (dB w a g 2 x s S i ⟨11,u,b,z⟩):=by
  refine aiV ?_;intro hi;refine akf ?_;intro a0;have t1:=h.t1;obtain⟨I,hv⟩:=LE (ae s ((x.t:Int)+1) (u+1));have HX:Kq (bJ 2 x.t x.m s i ⟨11,u,b,z⟩=(I,⟨0,u,b,z⟩)):=qh ahX;have hr:=(λW (k:KIs W a g 2 x s S)=>am k.ar ((x.t:Int)+1) (u+1) Y);rw[<-hv]at hr;have e1:IntKind.i64.wrap ((x.t:Int)+1)=(x.t:Int)+1:=IntWalk.i64_in _ ahE;have e2:IntKind.i64.wrap (u+1)=u+1:=IntWalk.i64_in _ ahE;refine ai7 ?_;intro HO HC;refine ajK ?_;intro HP K0 K1;clear hr h hp hv;go_enter func418,ntmps418;go_wp2_with (go_at_call 419;refine(eg _ _).mono ?_;rintro e w' ⟨rfl,rfl⟩);go_wp2_with (go_at_call 423;refine(bE .ticket K0.o i hi).mono ?_;rintro e w' ⟨rfl,rfl⟩)
  go_region_held3 (λW=>Z W x.l 1 ↑a/\Z W x.l 2 (J x.t)/\Z W x.q (i*4+1) (J u))
    (first|with_reducible exact HC.o _ _ _ _ K1.o HP.o|with_reducible exact HC.o _ _ _ _ O.o HP.o)
    (first
      | (go_at_call 177;go_loud (refine Op (HO.o _ K1.o) λw3 H=>?_);have O:=qh (K1.o.op H.o.2 H.o.1);have T2:=qh (((aa.refl [a,g,x.q] w).drew).trans (aK H.o.2))))
  all_goals have HT:=qh (jp i _ _ HP.o (by rw[b9 HP.o];exact O.o) 0);go_wp2_with (go_at_call 421;refine HT.o.mono ?_;rintro e w' ⟨rfl,k4,t4⟩;have V:=qh (And.intro k4 t4);clear k4 t4);go_ret;rw[dB,HX.o];exact⟨rfl,V.o.1,T2.o.trans (aI V.o.2)⟩
def oX(h:KIs w a g 2 x s S)(i:Nat)(p:Sp)(hp:S[i]? =some p)(I:p.pc=0\/p.pc=10):E 418 #[↑x.l,J i] w (dB w a g 2 x s S i p):=by
  refine aiV ?_;intro hi;obtain⟨c,u,b,z⟩:=p;refine akf ?_;intro a0;have O:=qh hp;have H:=qh h;clear h hp;simp only at I;rcases I with rfl|rfl
  all_goals go_enter func418,ntmps418;go_wp2_with (go_at_call 419;refine(eg _ _).mono ?_;rintro e w' ⟨rfl,rfl⟩);go_wp2_with (go_at_call 423;refine(bE .ticket H.o i hi).mono ?_;rintro e w' ⟨rfl,rfl⟩);go_ret;refine⟨rfl,?_,aa.refl _ _⟩;have k:=H.o;rw[<-b9 O.o]at k;exact k
def ud(h:KIs w a g 2 x s S)(i:Nat)(p:Sp)(hp:S[i]? =some p)(H':p.pc=10)(Y:s.ops+1<=1000000000000)(Tz:-10<=p.a)(Ph:p.a<=10000000000000):E 413 #[↑x.l,J i] w (pw w a g 2 x s S i p):=by
  obtain⟨c,u,b,z⟩:=p;simp only at Tz Ph H';subst H';obtain⟨V,hv⟩:=LE (af s x.t);obtain⟨v,O⟩:=LE (ldW s.W x.t);have HX:Kq (cB 2 x.t s i ⟨10,u,b,z⟩=(V,decide (v=u+1))):=qh ahQ;have hr:=(λW (k:KIs W a g 2 x s S)=>aD k.ar x.t Y);rw[<-hv,<-O]at hr;have e2:IntKind.i64.wrap (u+1)=u+1:=IntWalk.i64_in _ ahE;refine ai7 ?_;intro HO HC;have HA:=qh (pK h i _ hp 10);refine ajK ?_;intro HP K0 K1;clear hr h hp hv O;rw[show(⟨10,u,b,z⟩:Sp).pc=10 from rfl,if_pos rfl]at HA;cases hd:(v==u+1)
  all_goals
    go_enter func413,ntmps413;go_wp2_with (go_at_call 419;refine(eg _ _).mono ?_;rintro e w' ⟨rfl,rfl⟩);go_wp2_with (go_at_call 420;refine HA.o.mono ?_;rintro e w' ⟨rfl,rfl⟩)
    go_region_held3 (λW=>Z W x.l 1 ↑a/\Z W x.l 2 (J x.t)/\Z W x.q (i*4+1) (J u))
      (first|with_reducible exact HC.o _ _ _ _ K1.o HP.o|with_reducible exact HC.o _ _ _ _ H.o HP.o)
      (first
        | (go_at_call 173;go_loud (refine Op (HO.o _ K1.o) λw3 I=>?_);have H:=qh (K1.o.op I.o.2 I.o.1);have T2:=qh (((aa.refl [a,g,x.q] w).drew).trans (aK I.o.2))))
  all_goals go_wp2;go_ret;rw[pw,HX.o];first| exact⟨by rw[decide_eq_true ahU];rfl,H.o,T2.o⟩| exact⟨by rw[decide_eq_false ahU];rfl,H.o,T2.o⟩
end
end
section
open Go.RowKit
section
variable{w:World}{g:Nat}{x:Fx}{s:Ar}{S:List Sp}
def KIs.mi(h:KIs w a g 4 x s S):w.cell? x.l=some ↑a/\Z w x.l 1 (J x.t):=⟨h.lk.cell 0,h.lk.cell 1⟩
def KIs.samS{p:Sp}(h:KIs w a g k x s S)(H:S[i]? =some p):KIs w a g k x s (S.set i p):=by rw[b9 H];exact h
def jJ(h:KIs w a g 4 x s S)(y:Int)(H:-10<=y/\y<=10000000000000):E 442 #[↑x.l,J y] w λe w'=>e= returned (J (mNx x.t y))/\w=w':=by have c1:=h.mi.2;have t1:=h.t1;have I:IntKind.i64.wrap (2*y)=2*y:=IntWalk.i64_in _ ahE;have O:IntKind.i64.wrap ((x.t:Int)+2*y)=(x.t:Int)+2*y:=IntWalk.i64_in _ ahE;have V:IntKind.i64.wrap ((x.t:Int)+2*y-1)=(x.t:Int)+2*y-1:=IntWalk.i64_in _ ahE;clear h;go_enter func442,ntmps442;exact aaa
def ps(h:KIs w a g 4 x s S)(y:Int)(H:-10<=y/\y<=10000000000000):E 448 #[↑x.l,J y] w λe w'=>e= returned (J (mWt x.t y))/\w=w':=by have c1:=h.mi.2;have t1:=h.t1;have I:IntKind.i64.wrap (2*y)=2*y:=IntWalk.i64_in _ ahE;have O:IntKind.i64.wrap ((x.t:Int)+2*y)=(x.t:Int)+2*y:=IntWalk.i64_in _ ahE;clear h;go_enter func448,ntmps448;exact aaa
def lx(w:World)(a g:Nat)(x:Fx)(S:List Sp)(i:Nat)(p:Sp)(r:Ar×Sp)(e:Ending)(w':World):Prop:=
 e= returned (J r.2.pc)/\KIs w' a g 4 x r.1 (S.set i {r.2 with pc:=p.pc})/\aa [a,g,x.q] w w'
def GY(h:KIs w a g 4 x s S)(i:Nat)(hin:i<x.n)(u b z:Int)(hp:S[i]? =some (⟨1,u,b,z⟩:Sp))(Y:s.ops+1<=1000000000000):E 446 #[↑x.l,pointer (some ⟨x.q,i*4,none⟩),J ((i:Int)+1)] w (lx w a g x S i (⟨1,u,b,z⟩:Sp) (eH x.t s ((i:Int)+1) (⟨1,u,b,z⟩:Sp))):=by
  refine ajY ?_;intro hn e0;obtain⟨O,hv⟩:=LE (ae s (mNx x.t ((i:Int)+1)) 0);have HX:Kq (eH x.t s ((i:Int)+1) (⟨1,u,b,z⟩:Sp)=(O,⟨2,u,b,z⟩)):=qh ahX;have HF:=qh (λW (k:KIs W a g 4 x s S)=>jJ k ((i:Int)+1) ahE);have I:=(λW (k:KIs W a g 4 x s S)=>am k.ar (mNx x.t ((i:Int)+1)) 0 Y);rw[<-hv]at I;have HO:=qh I;have V:=qh (λW s (S:List Sp) (k:KIs W a g 4 x s S) (hp:S[i]? =some (⟨1,u,b,z⟩:Sp))=>k.mi.1);refine ai6 ?_;intro HP HL K1;clear I h hp hv;go_enter func446,ntmps446;go_wp2_with fail
  go_region_held3 (λW=>W.cell? x.l=some ↑a)
    (first|with_reducible exact V.o _ _ _ K1.o HP.o|with_reducible exact V.o _ _ _ K2.o HP.o)
    (first
      | (go_at_call 442;go_loud (refine LT (HF.o _ K1.o) ?_))
      | (go_at_call 177;go_loud (refine Op (HO.o _ K1.o) λw3 H=>?_);have K2:=qh (K1.o.op H.o.2 H.o.1);have T2:=qh (((aa.refl [a,g,x.q] w).drew).trans (aK H.o.2))))
  all_goals go_wp2;go_ret;rw[HX.o];exact⟨rfl,K2.o.samS HP.o,T2.o⟩
def GZ(h:KIs w a g 4 x s S)(i:Nat)(hin:i<x.n)(u b z:Int)(hp:S[i]? =some (⟨2,u,b,z⟩:Sp))(Y:s.ops+1<=1000000000000):E 446 #[↑x.l,pointer (some ⟨x.q,i*4,none⟩),J ((i:Int)+1)] w (lx w a g x S i (⟨2,u,b,z⟩:Sp) (eH x.t s ((i:Int)+1) (⟨2,u,b,z⟩:Sp))):=by
  refine ajY ?_;intro hn e0;obtain⟨O,hv⟩:=LE (ae s (mWt x.t ((i:Int)+1)) 1);have HX:Kq (eH x.t s ((i:Int)+1) (⟨2,u,b,z⟩:Sp)=(O,⟨3,u,b,z⟩)):=qh ahX;have HF:=qh (λW (k:KIs W a g 4 x s S)=>ps k ((i:Int)+1) ahE);have I:=(λW (k:KIs W a g 4 x s S)=>am k.ar (mWt x.t ((i:Int)+1)) 1 Y);rw[<-hv]at I;have HO:=qh I;have V:=qh (λW s (S:List Sp) (k:KIs W a g 4 x s S) (hp:S[i]? =some (⟨2,u,b,z⟩:Sp))=>k.mi.1);refine ai6 ?_;intro HP HL K1;clear I h hp hv;go_enter func446,ntmps446;go_wp2_with fail
  go_region_held3 (λW=>W.cell? x.l=some ↑a)
    (first|with_reducible exact V.o _ _ _ K1.o HP.o|with_reducible exact V.o _ _ _ K2.o HP.o)
    (first
      | (go_at_call 448;go_loud (refine LT (HF.o _ K1.o) ?_))
      | (go_at_call 177;go_loud (refine Op (HO.o _ K1.o) λw3 H=>?_);have K2:=qh (K1.o.op H.o.2 H.o.1);have T2:=qh (((aa.refl [a,g,x.q] w).drew).trans (aK H.o.2))))
  all_goals go_wp2;go_ret;rw[HX.o];exact⟨rfl,K2.o.samS HP.o,T2.o⟩
def G2(h:KIs w a g 4 x s S)(i:Nat)(hin:i<x.n)(u b z:Int)(hp:S[i]? =some (⟨4,u,b,z⟩:Sp))(Y:s.ops+1<=1000000000000)(hu:-10<=u/\u<=10000000000000):E 446 #[↑x.l,pointer (some ⟨x.q,i*4,none⟩),J ((i:Int)+1)] w (lx w a g x S i (⟨4,u,b,z⟩:Sp) (eH x.t s ((i:Int)+1) (⟨4,u,b,z⟩:Sp))):=by
  refine ajY ?_;intro hn e0;obtain⟨O,hv⟩:=LE (ae s (mNx x.t u) ((i:Int)+1));have HX:Kq (eH x.t s ((i:Int)+1) (⟨4,u,b,z⟩:Sp)=(O,⟨5,u,b,z⟩)):=qh ahX;have HF:=qh (λW (k:KIs W a g 4 x s S)=>jJ k u (by exact hu));have I:=(λW (k:KIs W a g 4 x s S)=>am k.ar (mNx x.t u) ((i:Int)+1) Y);rw[<-hv]at I;have HO:=qh I;have V:=qh (λW s (S:List Sp) (k:KIs W a g 4 x s S) (hp:S[i]? =some (⟨4,u,b,z⟩:Sp))=>(And.intro k.mi.1 (k.sp.cell hp 1 _ rfl)));refine ai6 ?_;intro HP HL K1;clear I h hp hv;go_enter func446,ntmps446;go_wp2_with fail
  go_region_held3 (λW=>W.cell? x.l=some ↑a/\Z W x.q (i*4+1) (J u))
    (first|with_reducible exact V.o _ _ _ K1.o HP.o|with_reducible exact V.o _ _ _ K2.o HP.o)
    (first
      | (go_at_call 442;go_loud (refine LT (HF.o _ K1.o) ?_))
      | (go_at_call 177;go_loud (refine Op (HO.o _ K1.o) λw3 H=>?_);have K2:=qh (K1.o.op H.o.2 H.o.1);have T2:=qh (((aa.refl [a,g,x.q] w).drew).trans (aK H.o.2))))
  all_goals go_wp2;go_ret;rw[HX.o];exact⟨rfl,K2.o.samS HP.o,T2.o⟩
def G0(h:KIs w a g 4 x s S)(i:Nat)(hin:i<x.n)(u b z:Int)(hp:S[i]? =some (⟨3,u,b,z⟩:Sp))(Y:s.ops+1<=1000000000000):E 446 #[↑x.l,pointer (some ⟨x.q,i*4,none⟩),J ((i:Int)+1)] w (lx w a g x S i (⟨3,u,b,z⟩:Sp) (eH x.t s ((i:Int)+1) (⟨3,u,b,z⟩:Sp))):=by
  refine ajY ?_;intro hn e0;obtain⟨ab,hv⟩:=LE (ch s (x.t:Int) ((i:Int)+1));obtain⟨v,O⟩:=LE (ldW s.W (x.t:Int));have HX:Kq (eH x.t s ((i:Int)+1) (⟨3,u,b,z⟩:Sp)=(ab,(⟨if v=0 then 10 else 4,v,b,z⟩:Sp))):=qh ahQ;have hr:=(λW (k:KIs W a g 4 x s S)=>fu k.ar (x.t:Int) ((i:Int)+1) Y);rw[<-hv,<-O]at hr;have HO:=qh hr;have I:=qh (λW s (S:List Sp) (y:Int) (k:KIs W a g 4 x s S) (hp:S[i]? =some (⟨3,y,b,z⟩:Sp))=>(And.intro k.mi.1 k.mi.2));refine ai6 ?_;intro HP HL K1;clear hr h hp hv O;cases hc:(v==0)
  all_goals
    go_enter func446,ntmps446;go_wp2_with fail
    go_region_held3 (λW=>W.cell? x.l=some ↑a/\Z W x.l 1 (J x.t))
      (first|with_reducible exact I.o _ _ _ _ K1.o HP.o|with_reducible exact I.o _ _ _ _ H.o HP.o|with_reducible exact Kk.o)
      (first
        | (go_at_call 271;go_loud (refine Op (HO.o _ K1.o) λw3 a3=>?_);have H:=qh (K1.o.op a3.o.2 a3.o.1);have T2:=qh (((aa.refl [a,g,x.q] w).drew).trans (aK a3.o.2));have V:=qh (H.o.put (p':=(⟨3,v,b,z⟩:Sp)) HP.o (j:=1) (u:= J v) ahG rfl);have Kk:=qh (I.o _ _ _ v V.o (Jp HP.o _));have e1:=H.o.sp.cell HP.o 1 _ rfl;have z1:=H.o.sp.free (i*4+1)))
  all_goals go_wp2;go_ret;rw[HX.o];first| (rw[if_pos ahL];exact⟨rfl,V.o,T2.o.trans (aI (aV _ _ _))⟩)| (rw[if_neg ahL];exact⟨rfl,V.o,T2.o.trans (aI (aV _ _ _))⟩)
def G3(h:KIs w a g 4 x s S)(i:Nat)(hin:i<x.n)(u b z:Int)(hp:S[i]? =some (⟨5,u,b,z⟩:Sp))(Y:s.ops+1<=1000000000000):E 446 #[↑x.l,pointer (some ⟨x.q,i*4,none⟩),J ((i:Int)+1)] w (lx w a g x S i (⟨5,u,b,z⟩:Sp) (eH x.t s ((i:Int)+1) (⟨5,u,b,z⟩:Sp))):=by
  refine ajY ?_;intro hn e0;obtain⟨ab,hv⟩:=LE (af s (mWt x.t ((i:Int)+1)));obtain⟨v,O⟩:=LE (ldW s.W (mWt x.t ((i:Int)+1)));have HX:Kq (eH x.t s ((i:Int)+1) (⟨5,u,b,z⟩:Sp)=(ab,(⟨if v=0 then 10 else 5,u,b,z⟩:Sp))):=qh ahQ;have HF:=qh (λW (k:KIs W a g 4 x s S)=>ps k ((i:Int)+1) ahE);have V:=(λW (k:KIs W a g 4 x s S)=>aD k.ar (mWt x.t ((i:Int)+1)) Y);rw[<-hv,<-O]at V;have HO:=qh V;have HC:=qh (λW s (S:List Sp) (k:KIs W a g 4 x s S) (hp:S[i]? =some (⟨5,u,b,z⟩:Sp))=>k.mi.1);refine ai6 ?_;intro HP HL K1;clear V h hp hv O;cases hc:(v==0)
  all_goals
    go_enter func446,ntmps446;go_wp2_with fail
    go_region_held3 (λW=>W.cell? x.l=some ↑a)
      (first|with_reducible exact HC.o _ _ _ K1.o HP.o|with_reducible exact HC.o _ _ _ H.o HP.o)
      (first
        | (go_at_call 448;go_loud (refine LT (HF.o _ K1.o) ?_))
        | (go_at_call 173;go_loud (refine Op (HO.o _ K1.o) λw3 I=>?_);have H:=qh (K1.o.op I.o.2 I.o.1);have T2:=qh (((aa.refl [a,g,x.q] w).drew).trans (aK I.o.2))))
  all_goals go_wp2;go_ret;rw[HX.o];first| (rw[if_pos ahL];exact⟨rfl,H.o.samS HP.o,T2.o⟩)| (rw[if_neg ahL];exact⟨rfl,H.o.samS HP.o,T2.o⟩)
def DA(h:KIs w a g 4 x s S)(i:Nat)(hin:i<x.n)(u b z:Int)(hp:S[i]? =some (⟨12,u,b,z⟩:Sp))(Y:s.ops+1<=1000000000000):E 447 #[↑x.l,pointer (some ⟨x.q,i*4,none⟩),J ((i:Int)+1)] w (lx w a g x S i (⟨12,u,b,z⟩:Sp) (dH x.t s ((i:Int)+1) (⟨12,u,b,z⟩:Sp))):=by
  refine ajY ?_;intro hn e0;obtain⟨ab,hv⟩:=LE (dR s (x.t:Int) ((i:Int)+1) 0);obtain⟨v,O⟩:=LE (cG s (x.t:Int) ((i:Int)+1));have HX:Kq (dH x.t s ((i:Int)+1) (⟨12,u,b,z⟩:Sp)=(ab,(⟨if v=true then 0 else 13,u,b,z⟩:Sp))):=qh ahQ;have V:=(λW (k:KIs W a g 4 x s S)=>jb k.ar (x.t:Int) ((i:Int)+1) 0 Y);rw[<-hv,<-O]at V;have HO:=qh V;have HC:=qh (λW s (S:List Sp) (k:KIs W a g 4 x s S) (hp:S[i]? =some (⟨12,u,b,z⟩:Sp))=>(And.intro k.mi.1 k.mi.2));refine ai6 ?_;intro HP HL K1;clear V h hp hv O;cases hc:v
  all_goals
    go_enter func447,ntmps447;go_wp2_with fail
    go_region_held3 (λW=>W.cell? x.l=some ↑a/\Z W x.l 1 (J x.t))
      (first|with_reducible exact HC.o _ _ _ K1.o HP.o|with_reducible exact HC.o _ _ _ H.o HP.o)
      (first
        | (go_at_call 272;go_loud (refine Op (HO.o _ K1.o) λw3 I=>?_);have H:=qh (K1.o.op I.o.2 I.o.1);have T2:=qh (((aa.refl [a,g,x.q] w).drew).trans (aK I.o.2))))
  all_goals go_wp2;go_ret;rw[HX.o];first| (rw[if_pos ahL];exact⟨rfl,H.o.samS HP.o,T2.o⟩)| (rw[if_neg ahL];exact⟨rfl,H.o.samS HP.o,T2.o⟩)
def DC(h:KIs w a g 4 x s S)(i:Nat)(hin:i<x.n)(u b z:Int)(hp:S[i]? =some (⟨14,u,b,z⟩:Sp))(Y:s.ops+1<=1000000000000)(hu:-10<=u/\u<=10000000000000):E 447 #[↑x.l,pointer (some ⟨x.q,i*4,none⟩),J ((i:Int)+1)] w (lx w a g x S i (⟨14,u,b,z⟩:Sp) (dH x.t s ((i:Int)+1) (⟨14,u,b,z⟩:Sp))):=by
  refine ajY ?_;intro hn e0;obtain⟨O,hv⟩:=LE (ae s (mWt x.t u) 0);have HX:Kq (dH x.t s ((i:Int)+1) (⟨14,u,b,z⟩:Sp)=(O,⟨0,u,b,z⟩)):=qh ahX;have HF:=qh (λW (k:KIs W a g 4 x s S)=>ps k u (by exact hu));have I:=(λW (k:KIs W a g 4 x s S)=>am k.ar (mWt x.t u) 0 Y);rw[<-hv]at I;have HO:=qh I;have V:=qh (λW s (S:List Sp) (k:KIs W a g 4 x s S) (hp:S[i]? =some (⟨14,u,b,z⟩:Sp))=>(And.intro k.mi.1 (k.sp.cell hp 1 _ rfl)));refine ai6 ?_;intro HP HL K1;clear I h hp hv;go_enter func447,ntmps447;go_wp2_with fail
  go_region_held3 (λW=>W.cell? x.l=some ↑a/\Z W x.q (i*4+1) (J u))
    (first|with_reducible exact V.o _ _ _ K1.o HP.o|with_reducible exact V.o _ _ _ K2.o HP.o)
    (first
      | (go_at_call 448;go_loud (refine LT (HF.o _ K1.o) ?_))
      | (go_at_call 177;go_loud (refine Op (HO.o _ K1.o) λw3 H=>?_);have K2:=qh (K1.o.op H.o.2 H.o.1);have T2:=qh (((aa.refl [a,g,x.q] w).drew).trans (aK H.o.2))))
  all_goals go_wp2;go_ret;rw[HX.o];exact⟨rfl,K2.o.samS HP.o,T2.o⟩
def Dz(h:KIs w a g 4 x s S)(i:Nat)(hin:i<x.n)(u b z:Int)(hp:S[i]? =some (⟨11,u,b,z⟩:Sp))(Y:s.ops+1<=1000000000000):E 447 #[↑x.l,pointer (some ⟨x.q,i*4,none⟩),J ((i:Int)+1)] w (lx w a g x S i (⟨11,u,b,z⟩:Sp) (dH x.t s ((i:Int)+1) (⟨11,u,b,z⟩:Sp))):=by
  refine ajY ?_;intro hn e0;obtain⟨ab,hv⟩:=LE (af s (mNx x.t ((i:Int)+1)));obtain⟨v,O⟩:=LE (ldW s.W (mNx x.t ((i:Int)+1)));have HX:Kq (dH x.t s ((i:Int)+1) (⟨11,u,b,z⟩:Sp)=(ab,(⟨if v≠0 then 14 else 12,v,b,z⟩:Sp))):=qh ahQ;have HF:=qh (λW (k:KIs W a g 4 x s S)=>jJ k ((i:Int)+1) ahE);have hr:=(λW (k:KIs W a g 4 x s S)=>aD k.ar (mNx x.t ((i:Int)+1)) Y);rw[<-hv,<-O]at hr;have HO:=qh hr;have I:=qh (λW s (S:List Sp) (y:Int) (k:KIs W a g 4 x s S) (hp:S[i]? =some (⟨11,y,b,z⟩:Sp))=>k.mi.1);refine ai6 ?_;intro HP HL K1;clear hr h hp hv O;cases hc:(v !=0)
  all_goals
    go_enter func447,ntmps447;go_wp2_with fail
    go_region_held3 (λW=>W.cell? x.l=some ↑a)
      (first|with_reducible exact I.o _ _ _ _ K1.o HP.o|with_reducible exact I.o _ _ _ _ H.o HP.o|with_reducible exact Kk.o)
      (first
        | (go_at_call 442;go_loud (refine LT (HF.o _ K1.o) ?_))
        | (go_at_call 173;go_loud (refine Op (HO.o _ K1.o) λw3 a3=>?_);have H:=qh (K1.o.op a3.o.2 a3.o.1);have T2:=qh (((aa.refl [a,g,x.q] w).drew).trans (aK a3.o.2));have V:=qh (H.o.put (p':=(⟨11,v,b,z⟩:Sp)) HP.o (j:=1) (u:= J v) ahG rfl);have Kk:=qh (I.o _ _ _ v V.o (Jp HP.o _));have e1:=H.o.sp.cell HP.o 1 _ rfl;have z1:=H.o.sp.free (i*4+1);have e5:=H.o.sp.cell HP.o 0 _ rfl;simp only[Nat.add_zero]at e5))
  all_goals go_wp2;go_ret;rw[HX.o];first| (rw[if_pos ahL];exact⟨rfl,V.o,T2.o.trans (aI (aV _ _ _))⟩)| (rw[if_neg ahL];exact⟨rfl,V.o,T2.o.trans (aI (aV _ _ _))⟩)
def DB(h:KIs w a g 4 x s S)(i:Nat)(hin:i<x.n)(u b z:Int)(hp:S[i]? =some (⟨13,u,b,z⟩:Sp))(Y:s.ops+1<=1000000000000):E 447 #[↑x.l,pointer (some ⟨x.q,i*4,none⟩),J ((i:Int)+1)] w (lx w a g x S i (⟨13,u,b,z⟩:Sp) (dH x.t s ((i:Int)+1) (⟨13,u,b,z⟩:Sp))):=by
  refine ajY ?_;intro hn e0;obtain⟨ab,hv⟩:=LE (af s (mNx x.t ((i:Int)+1)));obtain⟨v,O⟩:=LE (ldW s.W (mNx x.t ((i:Int)+1)));have HX:Kq (dH x.t s ((i:Int)+1) (⟨13,u,b,z⟩:Sp)=(ab,(⟨if v≠0 then 14 else 13,v,b,z⟩:Sp))):=qh ahQ;have HF:=qh (λW (k:KIs W a g 4 x s S)=>jJ k ((i:Int)+1) ahE);have hr:=(λW (k:KIs W a g 4 x s S)=>aD k.ar (mNx x.t ((i:Int)+1)) Y);rw[<-hv,<-O]at hr;have HO:=qh hr;have I:=qh (λW s (S:List Sp) (y:Int) (k:KIs W a g 4 x s S) (hp:S[i]? =some (⟨13,y,b,z⟩:Sp))=>k.mi.1);refine ai6 ?_;intro HP HL K1;clear hr h hp hv O;cases hc:(v !=0)
  all_goals
    go_enter func447,ntmps447;go_wp2_with fail
    go_region_held3 (λW=>W.cell? x.l=some ↑a)
      (first|with_reducible exact I.o _ _ _ _ K1.o HP.o|with_reducible exact I.o _ _ _ _ H.o HP.o|with_reducible exact Kk.o)
      (first
        | (go_at_call 442;go_loud (refine LT (HF.o _ K1.o) ?_))
        | (go_at_call 173;go_loud (refine Op (HO.o _ K1.o) λw3 a3=>?_);have H:=qh (K1.o.op a3.o.2 a3.o.1);have T2:=qh (((aa.refl [a,g,x.q] w).drew).trans (aK a3.o.2));have V:=qh (H.o.put (p':=(⟨13,v,b,z⟩:Sp)) HP.o (j:=1) (u:= J v) ahG rfl);have Kk:=qh (I.o _ _ _ v V.o (Jp HP.o _));have e1:=H.o.sp.cell HP.o 1 _ rfl;have z1:=H.o.sp.free (i*4+1);have e5:=H.o.sp.cell HP.o 0 _ rfl;simp only[Nat.add_zero]at e5))
  all_goals go_wp2;go_ret;rw[HX.o];first| (rw[if_pos ahL];exact⟨rfl,V.o,T2.o.trans (aI (aV _ _ _))⟩)| (rw[if_neg ahL];exact⟨rfl,V.o,T2.o.trans (aI (aV _ _ _))⟩)
end
end
section
open Go.RowKit
variable{B:Int}
section
variable{w:World}{g:Nat}{x:Fx}{s:Ar}{S:List Sp}
structure kH(k:Nat)(x:Fx)(s:Ar)(S:List Sp)(B:Int):Prop where
 ops:s.ops+1<=1000000000000
 w:WdB B s
 p:∀p∈S,SpB k B p
 B0:1<=B
 B1:B<=10000000000
 inr:inR s.W x.t=true
def kH.sp(h:kH k x s S B){p:Sp}(H:S[i]? =some p):SpB k B p:=h.p p (List.mem_of_getElem? H)
def iQ(p:Sp):Prop:=(0<=p.pc/\p.pc<=5)\/(10<=p.pc/\p.pc<=14)
def yv(h:KIs w a g 4 x s S)(C:kH 4 x s S B)(i:Nat)(p:Sp)(hp:S[i]? =some p)(H:0<p.pc)(O:p.pc<=5):E 446 #[↑x.l,pointer (some ⟨x.q,i*4,none⟩),J ((i:Int)+1)] w (lx w a g x S i p (eH x.t s ((i:Int)+1) p)):=by
  refine aiV ?_;intro hi;have I:=C.sp hp;have Y:=C.ops;have V:=C.B1;obtain⟨pc,u,b,z⟩:=p;have a0:=I.a0;have a1:=I.a1;simp only at H O a0 a1;have:pc=1\/pc=2\/pc=3\/pc=4\/pc=5:=by omega
  rcases this with rfl|rfl|rfl|rfl|rfl
  . exact GY h i hi u b z hp Y
  . exact GZ h i hi u b z hp Y
  . exact G0 h i hi u b z hp Y
  . exact G2 h i hi u b z hp Y ahE
  . exact G3 h i hi u b z hp Y
def uT(h:KIs w a g 4 x s S)(C:kH 4 x s S B)(i:Nat)(p:Sp)(hp:S[i]? =some p)(H:10<p.pc)(O:p.pc<=14):E 447 #[↑x.l,pointer (some ⟨x.q,i*4,none⟩),J ((i:Int)+1)] w (lx w a g x S i p (dH x.t s ((i:Int)+1) p)):=by
  refine aiV ?_;intro hi;have I:=C.sp hp;have Y:=C.ops;have V:=C.B1;obtain⟨pc,u,b,z⟩:=p;have a0:=I.a0;have a1:=I.a1;simp only at H O a0 a1;have:pc=11\/pc=12\/pc=13\/pc=14:=by omega
  rcases this with rfl|rfl|rfl|rfl
  . exact Dz h i hi u b z hp Y
  . exact DA h i hi u b z hp Y
  . exact DB h i hi u b z hp Y
  . exact DC h i hi u b z hp Y ahE
def GoK(w:World)(a g:Nat)(x:Fx)(S:List Sp)(i:Nat)(Jv:Int)(r:Ar×Sp)(e:Ending)(w':World):Prop:=
 e= returned (bool (decide (r.2.pc=Jv)))/\KIs w' a g 4 x r.1 (S.set i r.2)/\aa [a,g,x.q] w w'
def gH{b c:Bool}(h:b=c):Ending.returned (Value.bool b)=Ending.returned (Value.bool c):=by rw[h]
def Bw(t:Int)(s:Ar)(y:Int)(p:Sp):(eH t s y p).2.pc≠0:=by
 unfold eH;split;.simp
 split;.simp
 split;.simp only;split<;>decide
 split;.simp
 .simp only;split<;>decide
def yu(t:Int)(s:Ar)(y:Int)(p:Sp):(dH t s y p).2.pc≠10:=by
 unfold dH;split;.simp only;split<;>decide
 split;.simp
 .simp only;repeat' split
  all_goals decide
def rY(t m:Int)(s:Ar)(i:Int){p:Sp}(H:0<p.pc)(I:p.pc<=5):decide ((eH t s (i+1) p).2.pc=10)=bo p (bJ 4 t m s i p).2:=by
 have e:bJ 4 t m s i p=eH t s (i+1) p:=by show mg t s i p=_;unfold mg;rw[if_pos ⟨H,by omega⟩]
 rw[e];have O:=Bw t s (i+1) p;unfold bo;by_cases h:(eH t s (i+1) p).2.pc=10;.rw[decide_eq_true h,decide_eq_true ⟨.inl h,by omega,by omega⟩]
 .exact aaH
def qy(t m:Int)(s:Ar)(i:Int){p:Sp}(H:10<p.pc)(I:p.pc<=14):decide ((dH t s (i+1) p).2.pc=0)=bo p (bJ 4 t m s i p).2:=by
 have e:bJ 4 t m s i p=dH t s (i+1) p:=by show mg t s i p=_;unfold mg;rw[if_neg ahE,if_pos H]
 rw[e];have O:=yu t s (i+1) p;unfold bo;by_cases h:(dH t s (i+1) p).2.pc=0;.rw[decide_eq_true h,decide_eq_true ⟨.inr h,by omega,by omega⟩]
 .exact aaH
def uF(h:KIs w a g 4 x s S)(i:Nat)(p:Sp)(hp:S[i]? =some p)(O:Int)(r:Ar×Sp)(hm:E 446 #[↑x.l,pointer (some ⟨x.q,i*4,none⟩),J ((i:Int)+1)] w (lx w a g x S i p r)):E 445 #[↑x.l,J i,J O,.func (.func 446) #[↑x.l] #[]] w (GoK w a g x S i O r):=by refine aiV ?_;intro hi;have hn:=h.n32;have x7:IntKind.i64.wrap ((i:Int)+1)=(i:Int)+1:=IntWalk.i64_in _ ahE;have HM:=qh hm;have V:=qh hp;have H:=qh h;clear h hm hp;cases hc:(r.2.pc==O);all_goals go_enter func445,ntmps445;go_wp2_with (go_at_call 444;refine(bE .mcs H.o i hi).mono ?_;rintro e w' ⟨rfl,rfl⟩);go_wp2_with (go_at_call 446;refine HM.o.mono ?_;rintro e w2 ⟨rfl,I,t2⟩;have K2:=qh (And.intro I t2);have K3:=qh (I.put0 (p':=r.2) (Jp V.o _) (u:= J r.2.pc) rfl);have f0:=I.sp.free (i*4);have a0:=I.sp.cell (Jp V.o _) 0 _ rfl;simp only[Nat.add_zero]at a0;clear I t2);go_ret;have Y:=K3.o;rw[dV]at Y;refine⟨?_,Y,K2.o.2.trans (aI (aV _ _ _))⟩;first| exact gH (decide_eq_true ahL).symm| exact gH (decide_eq_false ahL).symm
def sw(h:KIs w a g 4 x s S)(i:Nat)(p:Sp)(hp:S[i]? =some p)(O:Int)(r:Ar×Sp)(hm:E 447 #[↑x.l,pointer (some ⟨x.q,i*4,none⟩),J ((i:Int)+1)] w (lx w a g x S i p r)):E 445 #[↑x.l,J i,J O,.func (.func 447) #[↑x.l] #[]] w (GoK w a g x S i O r):=by refine aiV ?_;intro hi;have hn:=h.n32;have x7:IntKind.i64.wrap ((i:Int)+1)=(i:Int)+1:=IntWalk.i64_in _ ahE;have HM:=qh hm;have V:=qh hp;have H:=qh h;clear h hm hp;cases hc:(r.2.pc==O);all_goals go_enter func445,ntmps445;go_wp2_with (go_at_call 444;refine(bE .mcs H.o i hi).mono ?_;rintro e w' ⟨rfl,rfl⟩);go_wp2_with (go_at_call 447;refine HM.o.mono ?_;rintro e w2 ⟨rfl,I,t2⟩;have K2:=qh (And.intro I t2);have K3:=qh (I.put0 (p':=r.2) (Jp V.o _) (u:= J r.2.pc) rfl);have f0:=I.sp.free (i*4);have a0:=I.sp.cell (Jp V.o _) 0 _ rfl;simp only[Nat.add_zero]at a0;clear I t2);go_ret;have Y:=K3.o;rw[dV]at Y;refine⟨?_,Y,K2.o.2.trans (aI (aV _ _ _))⟩;first| exact gH (decide_eq_true ahL).symm| exact gH (decide_eq_false ahL).symm
def Cg(h:KIs w a g 4 x s S)(C:kH 4 x s S B)(i:Nat)(p:Sp)(O:S[i]? =some p)(hc:iQ p):E 441 #[↑x.l,J i] w (dB w a g 4 x s S i p):=by
  have KE:=aM;have HS:=qh (ed .mcs h i p O);have HI:=qh (λW (k:KIs W a g 4 x s S) (h0:0<p.pc) (h5:p.pc<=5)=>uF k i p O 10 _ (yv k C i p O h0 h5));have HO:=qh (λW (k:KIs W a g 4 x s S) (h0:10<p.pc) (h5:p.pc<=14)=>sw k i p O 0 _ (uT k C i p O h0 h5));have HP:=qh O;have H:=qh h;clear h O C;obtain⟨pc,u,b,z⟩:=p;have I:pc=0\/pc=10\/(pc=1\/pc=2\/pc=3\/pc=4\/pc=5)\/(pc=11\/pc=12\/pc=13\/pc=14):=by unfold iQ at hc;simp only at hc;omega
  clear hc;rcases I with I|I|I|I
  . subst I;go_enter func441,ntmps441;go_wp2_with (go_at_call 440;refine HS.o.mono ?_;unfold aF;rintro e w1 ⟨rfl,b1⟩;have H1:=qh (And.intro (H.o.below b1) (aa.of_below (S:=[a,g,x.q]) b1));clear b1);go_ret;have k:=H1.o.1;rw[<-b9 HP.o]at k;exact⟨rfl,k,H1.o.2⟩
  . subst I;go_enter func441,ntmps441;go_wp2_with (go_at_call 440;refine HS.o.mono ?_;unfold aF;rintro e w1 ⟨rfl,b1⟩;have H1:=qh (And.intro (H.o.below b1) (aa.of_below (S:=[a,g,x.q]) b1));clear b1);go_ret;have k:=H1.o.1;rw[<-b9 HP.o]at k;exact⟨rfl,k,H1.o.2⟩
  . rcases I with rfl|rfl|rfl|rfl|rfl
    all_goals go_enter func441,ntmps441;go_wp2_with (go_at_call 440;refine HS.o.mono ?_;unfold aF;rintro e w1 ⟨rfl,b1⟩;have H1:=qh (And.intro (H.o.below b1) (aa.of_below (S:=[a,g,x.q]) b1));clear b1);go_wp2_with (go_at_call 445;refine(HI.o _ H1.o.1 ahF ahF).mono ?_;rintro e w2 ⟨rfl,Y,t2⟩;have V:=qh (And.intro Y t2);clear Y t2);go_ret;exact⟨gH (rY _ _ _ _ ahF ahF),V.o.1,H1.o.2.trans V.o.2⟩
  . rcases I with rfl|rfl|rfl|rfl
    all_goals go_enter func441,ntmps441;go_wp2_with (go_at_call 440;refine HS.o.mono ?_;unfold aF;rintro e w1 ⟨rfl,b1⟩;have H1:=qh (And.intro (H.o.below b1) (aa.of_below (S:=[a,g,x.q]) b1));clear b1);go_wp2_with (go_at_call 445;refine(HO.o _ H1.o.1 ahF ahF).mono ?_;rintro e w2 ⟨rfl,Y,t2⟩;have V:=qh (And.intro Y t2);clear Y t2);go_ret;exact⟨gH (qy _ _ _ _ ahF ahF),V.o.1,H1.o.2.trans V.o.2⟩
def xx(h:KIs w a g 4 x s S)(i:Nat)(p:Sp)(hp:S[i]? =some p)(H':p.pc=10)(Y:s.ops+1<=1000000000000):E 436 #[↑x.l,J i] w (pw w a g 4 x s S i p):=by
  refine aiV ?_;intro hi;have hn:=h.n32;have KE:=aM;obtain⟨c,u,b,z⟩:=p;simp only at H';subst H';obtain⟨ab,hv⟩:=LE (af s (mNx x.t ((i:Int)+1)));obtain⟨v,O⟩:=LE (ldW s.W (mNx x.t ((i:Int)+1)));have HX:Kq (cB 4 x.t s i ⟨10,u,b,z⟩=(ab,decide (v=0))):=qh ahQ;have x7:IntKind.i64.wrap ((i:Int)+1)=(i:Int)+1:=IntWalk.i64_in _ ahE;have hr:=(λW (k:KIs W a g 4 x s S)=>aD k.ar (mNx x.t ((i:Int)+1)) Y);rw[<-hv,<-O]at hr;have HO:=qh hr;have HS:=qh (λW (k:KIs W a g 4 x s S)=>ed .mcs k i _ hp);have HF:=qh (λW (k:KIs W a g 4 x s S)=>jJ k ((i:Int)+1) ahE);have I:Kq (∀W s (S':List Sp),KIs W a g 4 x s S'->W.cell? x.l=some ↑a):=qh (λW s S' k=>k.mi.1);have HP:=qh hp;have V:=qh (h.below ((Below.refl _ w).drew));clear hr h hp hv O;cases hd:(v==0)
  all_goals
    go_enter func436,ntmps436;go_wp2_with fail;first
    | (go_region_held3 (λW=>W.cell? x.l=some ↑a)
        (first|with_reducible exact I.o _ _ _ V.o|with_reducible exact I.o _ _ _ H.o|with_reducible exact I.o _ _ _ K3.o)
        (first
          | (go_at_call 440;go_loud (refine(HS.o _ V.o).mono ?_);unfold aF;rintro en w2 ⟨rfl,b2⟩;have H:=qh (V.o.below b2);have T2:=qh (((aa.refl [a,g,x.q] w).drew).trans (aa.of_below b2));clear b2)
          | (go_at_call 442;go_loud (refine LT (HF.o _ H.o) ?_))
          | (go_at_call 173;go_loud (refine Op (HO.o _ H.o) λw3 a3=>?_);have K3:=qh (H.o.op a3.o.2 a3.o.1);have T3:=qh (T2.o.trans (aK a3.o.2)))))
    | fail "held"
  all_goals go_wp2;go_ret;rw[pw,HX.o];first| exact⟨by rw[decide_eq_true ahU];rfl,K3.o,T3.o⟩| exact⟨by rw[decide_eq_false ahU];rfl,K3.o,T3.o⟩
end
end
section
open Go.RowKit
section
variable{w:World}{g:Nat}{x:Fx}{s:Ar}{S:List Sp}
def KIs.wi(h:KIs w a g 1 x s S):w.cell? x.l=some ↑a/\Z w x.l 1 (J x.t)/\Z w x.l 2 (J x.m):=⟨h.lk.cell 0,h.lk.cell 1,h.lk.cell 2⟩
def yU(h:KIs w a g 1 x s S)(i:Nat)(u b z:Int)(hp:S[i]? =some (⟨1,u,b,z⟩:Sp))(Y:s.ops+1<=1000000000000)(Tz:0<=u)(Ph:u<=10000000000000):E 410 #[↑x.l,J i] w (dB w a g 1 x s S i ⟨1,u,b,z⟩):=by
  refine aiV ?_;intro hi;have hn:=h.n32;refine akf ?_;intro a0;obtain⟨ab,hv⟩:=LE (dR s x.t 0 ((i:Int)+1));obtain⟨v,O⟩:=LE (cG s x.t 0);have HX:Kq (bJ 1 x.t x.m s i ⟨1,u,b,z⟩=(ab,if v then⟨10,u,b,z⟩else⟨2,min (2*u) x.m,u,z⟩)):=qh ahQ;have hr:=(λW (k:KIs W a g 1 x s S)=>jb k.ar x.t 0 ((i:Int)+1) Y);rw[<-hv,<-O]at hr;have e1:IntKind.i64.wrap ((i:Int)+1)=(i:Int)+1:=IntWalk.i64_in _ ahE;have e2:IntKind.i64.wrap (2*u)=2*u:=IntWalk.i64_in _ ahE;have HO:=qh hr;refine ajK ?_;intro HP K0 K1;clear hr h hp hv O;cases v
  . go_enter func410,ntmps410;go_wp2_with (go_at_call 411;refine(bE .tas K0.o i hi).mono ?_;rintro e w' ⟨rfl,rfl⟩)
    go_region_held3 (λW=>W.cell? x.l=some ↑a/\Z W x.l 1 (J x.t)/\Z W x.l 2 (J x.m))
      (first|with_reducible exact K1.o.wi|with_reducible exact H.o.wi)
      (first
        | (go_at_call 272;go_loud (refine Op (HO.o _ K1.o) λw3 V=>?_);have H:=qh (K1.o.op V.o.2 V.o.1);have T2:=qh (((aa.refl [a,g,x.q] w).drew).trans (aK V.o.2))))
    have d0:=ST (H.o.sp.cell HP.o 0 _ rfl);have d1:=H.o.sp.cell HP.o 1 _ rfl;have d2:=H.o.sp.cell HP.o 2 _ rfl;have z0:=H.o.sp.free (i*4);have z1:=H.o.sp.free (i*4+1);have z2:=H.o.sp.free (i*4+2);have d3:=H.o.wi;go_wp2_with fail;obtain⟨mu,Tg⟩:∃r:Int,r=2*u:=⟨_,rfl⟩;rw[<-Tg]at HX e2;have QP:=qh Tg;clear Tg;by_cases hm:(x.m:Int)<mu;. have Qh:min mu (x.m:Int)=x.m:=(by omega);rw[Qh]at HX;have I:=(((H.o.put0 HP.o (p':=(⟨2,u,b,z⟩:Sp)) (u:= J 2) rfl).put (Jp HP.o _) (j:=2) (p':=(⟨2,u,u,z⟩:Sp)) (u:= J u) ahG rfl).put (Jp (Jp HP.o _) _) (j:=1) (p':=(⟨2,x.m,u,z⟩:Sp)) (u:= J x.m) ahG rfl);rw[dV,dV]at I;have K5:=qh (I.below (Below.refl _ _).drew);have T5:=qh (T2.o.trans (aI (a:=a) (g:=g) ((((aV x.q (i*4) (J 2)).trans (aV x.q (i*4+2) (J u))).trans (aV x.q (i*4+1) (J x.m))).drew)));clear I Qh;go_region;go_wp2;all_goals go_ret;rw[dB,HX.o];first| exact⟨rfl,K5.o,T5.o⟩| (exfalso;have e9:=QP.o;omega)| (have e9:=QP.o;subst e9;exact⟨rfl,K5.o,T5.o⟩)
    . have Qh:min mu (x.m:Int)=mu:=(by omega);rw[Qh]at HX;have I:=(((H.o.put0 HP.o (p':=(⟨2,u,b,z⟩:Sp)) (u:= J 2) rfl).put (Jp HP.o _) (j:=2) (p':=(⟨2,u,u,z⟩:Sp)) (u:= J u) ahG rfl).put (Jp (Jp HP.o _) _) (j:=1) (p':=(⟨2,mu,u,z⟩:Sp)) (u:= J mu) ahG rfl);rw[dV,dV]at I;have K5:=qh (I.below (Below.refl _ _).drew);have T5:=qh (T2.o.trans (aI (a:=a) (g:=g) ((((aV x.q (i*4) (J 2)).trans (aV x.q (i*4+2) (J u))).trans (aV x.q (i*4+1) (J mu))).drew)));clear I Qh;go_region;go_wp2;all_goals go_ret;rw[dB,HX.o];first| exact⟨rfl,K5.o,T5.o⟩| (exfalso;have e9:=QP.o;omega)| (have e9:=QP.o;subst e9;exact⟨rfl,K5.o,T5.o⟩)
  . go_enter func410,ntmps410;go_wp2_with (go_at_call 411;refine(bE .tas K0.o i hi).mono ?_;rintro e w' ⟨rfl,rfl⟩)
    go_region_held3 (λW=>W.cell? x.l=some ↑a/\Z W x.l 1 (J x.t)/\Z W x.l 2 (J x.m))
      (first|with_reducible exact K1.o.wi|with_reducible exact H.o.wi)
      (first
        | (go_at_call 272;go_loud (refine Op (HO.o _ K1.o) λw3 V=>?_);have H:=qh (K1.o.op V.o.2 V.o.1);have T2:=qh (((aa.refl [a,g,x.q] w).drew).trans (aK V.o.2))))
    have d0:=ST (H.o.sp.cell HP.o 0 _ rfl);have z0:=H.o.sp.free (i*4);have I:=qh (H.o.put0 HP.o (p':=(⟨10,u,b,z⟩:Sp)) (u:= J 10) rfl);go_wp2;go_ret;rw[dB,HX.o];exact⟨rfl,I.o,T2.o.trans (aI (aV _ _ _))⟩
def yV(h:KIs w a g 1 x s S)(i:Nat)(u b z:Int)(hp:S[i]? =some (⟨2,u,b,z⟩:Sp))(Jt:-10000000000000<=b)(JY:b<=10000000000000):E 410 #[↑x.l,J i] w (dB w a g 1 x s S i ⟨2,u,b,z⟩):=by
  refine aiV ?_;intro hi;refine akf ?_;intro a0;have a2:=h.sp.cell hp 2 _ rfl;have z0:=h.sp.free (i*4);have z2:=h.sp.free (i*4+2);obtain⟨r,V⟩:∃r:Int,r=b-1:=⟨_,rfl⟩;have HX:Kq (bJ 1 x.t x.m s i ⟨2,u,b,z⟩=(s,⟨if r=0 then 1 else 2,u,r,z⟩)):=qh (by rw[V];rfl);have e1:IntKind.i64.wrap (b-1)=r:=by rw[V];exact IntWalk.i64_in _ ahE
  have Y:=qh hp;have I:=qh h;have H:=qh (h.put hp (p':=(⟨2,u,r,z⟩:Sp)) (j:=2) (u:= J r) ahG rfl);have O:=qh (H.o.put0 (Jp hp _) (p':=(⟨1,u,r,z⟩:Sp)) (u:= J 1) rfl);clear h hp V;cases hc:(r==0)
  all_goals
    go_enter func410,ntmps410;go_wp2_with (go_at_call 411;refine(bE .tas I.o i hi).mono ?_;rintro e w' ⟨rfl,rfl⟩);go_ret;rw[dB,HX.o]
    first
      | (rw[if_pos ahL]
         refine⟨rfl,?_,aI ((aV _ _ _).trans (aV _ _ _))⟩
         have k:=O.o
         rw[dV]at k
         exact k)
      | (rw[if_neg ahL];exact⟨rfl,H.o,aI (aV _ _ _)⟩)
def vB(h:KIs w a g 1 x s S)(i:Nat)(u b z:Int)(hp:S[i]? =some (⟨11,u,b,z⟩:Sp))(Y:s.ops+1<=1000000000000):E 410 #[↑x.l,J i] w (dB w a g 1 x s S i ⟨11,u,b,z⟩):=by
  refine aiV ?_;intro hi;refine akf ?_;intro a0;obtain⟨V,hv⟩:=LE (ae s x.t 0);have HX:Kq (bJ 1 x.t x.m s i ⟨11,u,b,z⟩=(V,⟨0,u,b,z⟩)):=qh ahX;have O:=(λW (k:KIs W a g 1 x s S)=>am k.ar x.t 0 Y);rw[<-hv]at O;have HO:=qh O;refine ajK ?_;intro HP K0 K1;clear O h hp hv;go_enter func410,ntmps410;go_wp2_with (go_at_call 411;refine(bE .tas K0.o i hi).mono ?_;rintro e w' ⟨rfl,rfl⟩)
  go_region_held3 (λW=>W.cell? x.l=some ↑a/\Z W x.l 1 (J x.t)/\Z W x.l 2 (J x.m))
    (first|with_reducible exact K1.o.wi|with_reducible exact H.o.wi)
    (first
      | (go_at_call 177;go_loud (refine Op (HO.o _ K1.o) λw3 I=>?_);have H:=qh (K1.o.op I.o.2 I.o.1);have T2:=qh (((aa.refl [a,g,x.q] w).drew).trans (aK I.o.2))))
  all_goals have d0:=ST (H.o.sp.cell HP.o 0 _ rfl);have z0:=H.o.sp.free (i*4);have K4:=qh (H.o.put0 HP.o (p':=(⟨0,u,b,z⟩:Sp)) (u:= J 0) rfl);go_wp2;go_ret;rw[dB,HX.o];exact⟨rfl,K4.o,T2.o.trans (aI (aV _ _ _))⟩
def qi(h:KIs w a g 1 x s S)(i:Nat)(p:Sp)(hp:S[i]? =some p)(I:p.pc=0\/p.pc=10):E 410 #[↑x.l,J i] w (dB w a g 1 x s S i p):=by
  refine aiV ?_;intro hi;obtain⟨c,u,b,z⟩:=p;refine akf ?_;intro a0;have O:=qh hp;have H:=qh h;clear h hp;simp only at I;rcases I with rfl|rfl
  all_goals go_enter func410,ntmps410;go_wp2_with (go_at_call 411;refine(bE .tas H.o i hi).mono ?_;rintro e w' ⟨rfl,rfl⟩);go_ret;refine⟨rfl,?_,aa.refl _ _⟩;have k:=H.o;rw[<-b9 O.o]at k;exact k
def uc(h:KIs w a g 1 x s S)(i:Nat)(p:Sp)(Y:S[i]? =some p)(H:p.pc=10):E 412 #[agg #[↑x.l],J i] w (pw w a g 1 x s S i p):=by have KE:=aM;have b1:=(Below.refl w.heap.size w).alloc (Nat.le_refl _) (cells #[↑x.l] 289);have O:=qh (ed .tas (h.below b1) i p Y);have I:=qh b1;have K0:=qh h;have HX:Kq (cB 1 x.t s i p=(s,true)):=qh (by unfold cB;rw[if_pos H];rfl);obtain⟨pc,u,b,z⟩:=p;simp only at H;subst H;unfold aF at O;clear h Y b1;go_enter func412,ntmps412;go_wp2_with fail;refine Op O.o λw1 b2=>?_;have V:=qh (show Below w.heap.size w w1 from I.o.trans (b2.o.mono I.o.size));go_wp2;go_ret;rw[pw,HX.o];exact⟨rfl,K0.o.below V.o,aa.of_below V.o⟩
end
end
section
open Go.RowKit
section
variable{w:World}{g:Nat}{x:Fx}{s:Ar}{S:List Sp}
def KIs.pi(h:KIs w a g 3 x s S):w.cell? x.l=some ↑a/\Z w x.l 1 (J x.t)/\Z w x.l 2 (J x.m)/\Z w x.l 3 (slice (some ⟨x.q,0,none⟩) x.n x.cap):=⟨h.lk.cell 0,h.lk.cell 1,h.lk.cell 2,h.lk.cell 3⟩
def KIs.qt(h:KIs w a g k x s S)(q:Qt w w'):KIs w' a g k x s S:=h.turns (T:=[]) (aa.of_qt q) ahF ahF ahF ahF
def li(h:KIs w a g 3 x s S)(y:Int)(O:0<=y/\y<=10000000000000):E 178 #[↑x.l,J y] w λe w'=>e= returned (J (pPl x.t x.m y))/\Qt w w':=by
 obtain⟨c0,c1,c2,c3⟩:=h.pi;have t1:=h.t1;have m0:=h.m0;have m1:=h.m1;have hm:((x.m:Int)==0)=false:=by simp;omega
 have V:y%(x.m:Int)<x.m:=Int.emod_lt_of_pos _ ahE;have I:0<=y%(x.m:Int):=Int.emod_nonneg _ ahE;obtain⟨r,H⟩:=LE (y%(x.m:Int));have e0:y.tmod (x.m:Int)=r:=by rw[H];exact Int.tmod_eq_emod_of_nonneg O.1
 have e1:IntKind.i64.wrap ((x.t:Int)+1)=(x.t:Int)+1:=IntWalk.i64_in _ ahE;have e2:IntKind.i64.wrap ((x.t:Int)+1+r)=(x.t:Int)+1+r:=IntWalk.i64_in _ (by rw[<-H]at V I;omega);have HX:Kq (pPl x.t x.m y=(x.t:Int)+1+r):=qh (by unfold pPl;rw[H]);have Y:=qh H;rw[HX.o];rw[<-H]at V I;clear h H;go_enter func178,ntmps178;go_wp2_with fail;go_quiet (fail);go_wp2;go_ret;exact⟨rfl,⟨nq,rfl⟩⟩
def pD(h:KIs w a g 3 x s S)(y:Int)(hy:0<=y/\y<=1000000000000)(Y:s.ops+1<=1000000000000):E 435 #[↑x.l,J y] w λe w'=>e= returned (bool (decide (ldW s.W (pPl x.t x.m y)=y+1)))/\KIs w' a g 3 x (af s (pPl x.t x.m y)) S/\aa [a,g,x.q] w w':=by
  obtain⟨ad,V⟩:=LE (pPl x.t x.m y);obtain⟨ab,hv⟩:=LE (af s ad);obtain⟨v,O⟩:=LE (ldW s.W ad);have hr:=(λW (k:KIs W a g 3 x s S)=>aD k.ar ad Y);rw[<-hv,<-O]at hr;have Oj:=(λW (k:KIs W a g 3 x s S)=>li k y ahE);rw[<-V]at Oj;rw[<-V,<-O,<-hv];have e2:IntKind.i64.wrap (y+1)=y+1:=IntWalk.i64_in _ ahE;have HO:=qh hr;have Sk:=qh Oj;have H:=qh (h.below ((Below.refl _ w).drew));clear hr h hv O Oj V;cases hd:(v==y+1)
  all_goals
    go_enter func435,ntmps435;go_wp2_with fail;first
    | (go_region_held3 (λW=>W.cell? x.l=some ↑a/\Z W x.l 1 (J x.t)/\Z W x.l 2 (J x.m)/\Z W x.l 3 (slice (some ⟨x.q,0,none⟩) x.n x.cap))
        (first|with_reducible exact H.o.pi|with_reducible exact Q2.o.pi|with_reducible exact I.o.pi)
        (first
          | (go_at_call 178;go_loud (refine Op (Sk.o _ H.o) λw2 q2=>?_);have Q2:=qh (H.o.qt q2.o);have T1:=qh (((aa.refl [a,g,x.q] w).drew).trans (aa.of_qt q2.o)))
          | (go_at_call 173;go_loud (refine Op (HO.o _ Q2.o) λw3 a3=>?_);have I:=qh (Q2.o.op a3.o.2 a3.o.1);have T2:=qh (T1.o.trans (aK a3.o.2)))))
    | fail "held"
  all_goals go_wp2;go_ret;first| exact⟨by rw[decide_eq_true ahU];rfl,I.o,T2.o⟩| exact⟨by rw[decide_eq_false ahU];rfl,I.o,T2.o⟩
def sD(h:KIs w a g 3 x s S)(y:Int)(hy:0<=y/\y<=1000000000000)(Y:s.ops+1<=1000000000000):E 432 #[↑x.l,J y] w λe w'=>e= returned (bool (decide (ldW s.W ((x.t:Int))=y+1)))/\KIs w' a g 3 x (af s ((x.t:Int))) S/\aa [a,g,x.q] w w':=by
  obtain⟨ad,V⟩:=LE ((x.t:Int));obtain⟨ab,hv⟩:=LE (af s ad);obtain⟨v,O⟩:=LE (ldW s.W ad);have hr:=(λW (k:KIs W a g 3 x s S)=>aD k.ar ad Y);rw[<-hv,<-O]at hr;rw[<-V,<-O,<-hv];have e2:IntKind.i64.wrap (y+1)=y+1:=IntWalk.i64_in _ ahE;have HO:=qh hr;rw[V]at HO;have H:=qh (h.below ((Below.refl _ w).drew));clear hr h hv O V;cases hd:(v==y+1)
  all_goals
    go_enter func432,ntmps432;go_wp2_with fail;first
    | (go_region_held3 (λW=>W.cell? x.l=some ↑a/\Z W x.l 1 (J x.t)/\Z W x.l 2 (J x.m)/\Z W x.l 3 (slice (some ⟨x.q,0,none⟩) x.n x.cap))
        (first|with_reducible exact H.o.pi|with_reducible exact Q2.o.pi|with_reducible exact I.o.pi)
        (first
          | (go_at_call 173;go_loud (refine Op (HO.o _ H.o) λw3 a3=>?_);have I:=qh (H.o.op a3.o.2 a3.o.1);have T2:=qh (((aa.refl [a,g,x.q] w).drew).trans (aK a3.o.2)))))
    | fail "held"
  all_goals go_wp2;go_ret;first| exact⟨by rw[decide_eq_true ahU];rfl,I.o,T2.o⟩| exact⟨by rw[decide_eq_false ahU];rfl,I.o,T2.o⟩
def rR(h:KIs w a g 3 x s S)(i:Nat)(u b z:Int)(hp:S[i]? =some (⟨2,u,b,z⟩:Sp))(H:0<=u/\u<=1000000000000)(Y:s.ops+1<=1000000000000):E 431 #[↑x.l,J i,J 2,.func (.func 435) #[] #[]] w λe w'=>e= returned (bool (decide (ldW s.W (pPl x.t x.m u)=u+1)))/\KIs w' a g 3 x (af s (pPl x.t x.m u)) S/\aa [a,g,x.q] w w':=by refine aiV ?_;intro hi;refine akf ?_;intro a0;have a1:=h.sp.cell hp 1 _ rfl;have HL:=qh (pD h u H Y);exact aaI
def xy(h:KIs w a g 3 x s S)(i:Nat)(u b z:Int)(hp:S[i]? =some (⟨10,u,b,z⟩:Sp))(H:0<=u/\u<=1000000000000)(Y:s.ops+1<=1000000000000):E 431 #[↑x.l,J i,J 10,.func (.func 432) #[] #[]] w λe w'=>e= returned (bool (decide (ldW s.W ((x.t:Int))=u+1)))/\KIs w' a g 3 x (af s ((x.t:Int))) S/\aa [a,g,x.q] w w':=by refine aiV ?_;intro hi;refine akf ?_;intro a0;have a1:=h.sp.cell hp 1 _ rfl;have HL:=qh (sD h u H Y);exact aaI
def qr(h:KIs w a g 3 x s S)(i:Nat)(p:Sp)(I:S[i]? =some p)(H:p.pc=10)(Y:s.ops+1<=1000000000000)(O:0<=p.a/\p.a<=1000000000000):E 425 #[↑x.l,J i] w (pw w a g 3 x s S i p):=by obtain⟨c,u,b,z⟩:=p;simp only at H O;subst H;have HA:=qh (xy h i u b z I O Y);have HX:Kq (cB 3 x.t s i ⟨10,u,b,z⟩=(af s x.t,decide (ldW s.W x.t=u+1))):=qh rfl;clear h I;go_enter func425,ntmps425;go_wp2_with fail;refine Op HA.o λw2 V=>?_;go_wp2;go_ret;rw[pw,HX.o];exact⟨rfl,V.o⟩
def vz(h:KIs w a g 3 x s S)(i:Nat)(u b z:Int)(hp:S[i]? =some (⟨1,u,b,z⟩:Sp))(Y:s.ops+1<=1000000000000)(hw:inR s.W x.t=true)(JO:0<=ldW s.W x.t)(Pj:ldW s.W x.t<=10000000000000):E 430 #[↑x.l,J i] w (dB w a g 3 x s S i ⟨1,u,b,z⟩):=by
  have KE:=aM;refine aiV ?_;intro hi;have hn:=h.n32;have Ny:=h.cap;have t2:¬(i:Int)<0:=by omega
  have HS:=qh (ed .parted h i _ hp);unfold aF at HS;obtain⟨ab,hv⟩:=LE (addA s x.t 1);obtain⟨v,O⟩:=LE (ldW s.W x.t);have HX:Kq (bJ 3 x.t x.m s i ⟨1,u,b,z⟩=(ab,⟨2,v,b,z⟩)):=qh ahQ;have I:=(λW (k:KIs W a g 3 x s S)=>ii k.ar x.t 1 Y);rw[if_pos hw,<-hv,<-O]at I;rw[<-O]at JO Pj;have e1:IntKind.i64.wrap (v+1)=v+1:=IntWalk.i64_in _ ahE;have e2:IntKind.i64.wrap v=v:=IntWalk.i64_in _ ahE;rw[e1]at I;have HO:=qh I;have V:=qh hp;have K0:=qh h;clear I h hp hv O e1;go_enter func430,ntmps430;go_wp2_with fail;refine ajz ?_;intro w1 b1 Sw K1 T0 Sz;go_wp2_with fail
  go_region_held3 (λW=>W.cell? x.l=some ↑a/\Z W x.l 1 (J x.t)/\Z W x.l 2 (J x.m)/\Z W x.l 3 (slice (some ⟨x.q,0,none⟩) x.n x.cap))
    (first|with_reducible exact K1.o.pi|with_reducible exact H.o.pi|with_reducible exact K3.o.pi)
    (first
      | (go_at_call 298;go_loud (refine Op (HO.o _ K1.o) λw3 a3=>?_);have H:=qh (K1.o.op a3.o.2 a3.o.1);have T2:=qh (T0.o.trans (aK a3.o.2));have K3:=qh (H.o.put (p':=(⟨1,v,b,z⟩:Sp)) V.o (j:=1) (u:= J v) ahG rfl);have e4:=H.o.sp.cell V.o 1 _ rfl;have z1:=H.o.sp.free (i*4+1)))
  all_goals have HT:=qh (jW .parted i _ _ V.o K3.o 2);go_wp2_with (go_at_call 433;refine HT.o.mono ?_;rintro e w' ⟨rfl,k4,t4⟩;have K4:=qh (And.intro k4 t4);clear k4 t4);go_ret;rw[dB,HX.o];exact⟨rfl,K4.o.1,(T2.o.trans (aI (aV _ _ _))).trans (aI K4.o.2)⟩
def vA(h:KIs w a g 3 x s S)(i:Nat)(u b z:Int)(hp:S[i]? =some (⟨2,u,b,z⟩:Sp))(Y:s.ops+1<=1000000000000)(hu:0<=u/\u<=1000000000000):E 430 #[↑x.l,J i] w (dB w a g 3 x s S i ⟨2,u,b,z⟩):=by
  have KE:=aM;refine aiV ?_;intro hi;have hn:=h.n32;have Ny:=h.cap;have t2:¬(i:Int)<0:=by omega
  have HS:=qh (ed .parted h i _ hp);unfold aF at HS;obtain⟨ab,hv⟩:=LE (af s (pPl x.t x.m u));obtain⟨v,O⟩:=LE (ldW s.W (pPl x.t x.m u));have HX:Kq (bJ 3 x.t x.m s i ⟨2,u,b,z⟩=(ab,⟨if v=u+1 then 10 else 2,u,b,z⟩)):=qh ahQ;have I:=(λW (k:KIs W a g 3 x s S)=>rR k i u b z hp hu Y);rw[<-hv,<-O]at I;have V:=qh hp;have K0:=qh h;obtain⟨q,hq⟩:=LE (decide (v=u+1));rw[<-hq]at I;have HQ:=qh hq;have HA:=qh I;clear h hp hv O I hq;cases q
  all_goals
    go_enter func430,ntmps430;go_wp2_with fail;refine ajz ?_;intro w1 b1 Sw K1 T0 Sz;go_wp2_with fail;refine Op (HA.o _ Sw.o) λw2 k2=>?_;have H:=qh (And.intro k2.o.1 (Sz.o.trans k2.o.2))
    first
      | (have HT:=qh (jW .parted i _ _ V.o (by rw[b9 V.o];exact H.o.1) 10)
         go_wp2_with (go_at_call 433;refine HT.o.mono ?_;rintro e w' ⟨rfl,k4,t4⟩;have K4:=qh (And.intro k4 t4);clear k4 t4)
         go_ret
         rw[dB,HX.o]
         rw[if_pos (by simpa using HQ.o.symm)]
         exact⟨rfl,K4.o.1,H.o.2.trans (aI K4.o.2)⟩)
      | (go_wp2
         go_ret
         rw[dB,HX.o,if_neg (by simpa using HQ.o.symm),b9 V.o]
         exact⟨rfl,H.o.1,H.o.2⟩)
def tM(h:KIs w a g 3 x s S)(i:Nat)(u b z:Int)(hp:S[i]? =some (⟨11,u,b,z⟩:Sp))(Y:s.ops+1<=1000000000000)(hu:0<=u/\u<=1000000000000):E 430 #[↑x.l,J i] w (dB w a g 3 x s S i ⟨11,u,b,z⟩):=by
  have KE:=aM;refine aiV ?_;intro hi;have hn:=h.n32;have Ny:=h.cap;have t2:¬(i:Int)<0:=by omega
  have HS:=qh (ed .parted h i _ hp);unfold aF at HS;obtain⟨ad,O⟩:=LE (pPl x.t x.m (u+1));obtain⟨ab,hv⟩:=LE (ae s ad (u+2));have HX:Kq (bJ 3 x.t x.m s i ⟨11,u,b,z⟩=(ab,⟨0,u,b,z⟩)):=qh (by rw[hv,O];rfl);have hr:=(λW (k:KIs W a g 3 x s S)=>am k.ar ad (u+2) Y);rw[<-hv]at hr;have V:=(λW (k:KIs W a g 3 x s S)=>li k (u+1) ahE);rw[<-O]at V;have Sk:=qh V;have e1:IntKind.i64.wrap (u+1)=u+1:=IntWalk.i64_in _ ahE;have e2:IntKind.i64.wrap (u+2)=u+2:=IntWalk.i64_in _ ahE;have HO:=qh hr;have I:Kq (∀W s (S':List Sp) (c:Int),KIs W a g 3 x s S'->S'[i]? =some (⟨c,u,b,z⟩:Sp)->W.cell? x.l=some ↑a/\Z W x.l 1 (J x.t)/\Z W x.l 2 (J x.m)/\Z W x.l 3 (slice (some ⟨x.q,0,none⟩) x.n x.cap)/\Z W x.q (i*4+1) (J u)):=qh (λW s S' c k hp=>⟨k.pi.1,k.pi.2.1,k.pi.2.2.1,k.pi.2.2.2,k.sp.cell hp 1 _ rfl⟩);have H:=qh hp;have K0:=qh h;clear hr V h hp hv O;go_enter func430,ntmps430;go_wp2_with fail;refine ajz ?_;intro w1 b1 Sw K1 T0 Sz;go_wp2_with fail
  go_region_held3 (λW=>W.cell? x.l=some ↑a/\Z W x.l 1 (J x.t)/\Z W x.l 2 (J x.m)/\Z W x.l 3 (slice (some ⟨x.q,0,none⟩) x.n x.cap)/\Z W x.q (i*4+1) (J u))
    (first|with_reducible exact I.o _ _ _ _ K1.o H.o|with_reducible exact I.o _ _ _ _ Q2.o H.o|with_reducible exact I.o _ _ _ _ K2.o H.o)
    (first
      | (go_at_call 178;go_loud (refine Op (Sk.o _ K1.o) λw2 q2=>?_);have Q2:=qh (K1.o.qt q2.o);have T1:=qh (T0.o.trans (aa.of_qt q2.o)))
      | (go_at_call 177;go_loud (refine Op (HO.o _ Q2.o) λw3 a3=>?_);have K2:=qh (Q2.o.op a3.o.2 a3.o.1);have T2:=qh (T1.o.trans (aK a3.o.2))))
  all_goals have HT:=qh (jW .parted i _ _ H.o (by rw[b9 H.o];exact K2.o) 0);go_wp2_with (go_at_call 433;refine HT.o.mono ?_;rintro e w' ⟨rfl,k4,t4⟩;have K4:=qh (And.intro k4 t4);clear k4 t4);go_ret;rw[dB,HX.o];exact⟨rfl,K4.o.1,T2.o.trans (aI K4.o.2)⟩
def oV(h:KIs w a g 3 x s S)(i:Nat)(p:Sp)(I:S[i]? =some p)(V:p.pc=0\/p.pc=10):E 430 #[↑x.l,J i] w (dB w a g 3 x s S i p):=by
  have KE:=aM;have H:=qh (ed .parted h i _ I);unfold aF at H;obtain⟨c,u,b,z⟩:=p;have Y:=qh I;have K0:=qh h;clear h I;simp only at V H;rcases V with rfl|rfl
  all_goals go_enter func430,ntmps430;go_wp2_with fail;refine Op H.o λw1 O=>?_;go_wp2;go_ret;refine⟨rfl,?_,aa.of_below O.o⟩;have k:=K0.o.below O.o;rw[<-b9 Y.o]at k;exact k
end
end
end Go.Proofs.YtglokdbiggbkjaaGreat
