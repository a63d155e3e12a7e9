/- Joined texts. -/
import Derived.Handy
import Derived.Test.YtglokdbiggbkjaaGreatMgWorldTrace0
import Derived.Test.YtglokdbiggbkjaaGreatMgWorldTrace2
import Derived.Test.YtglokdbiggbkjaaGreatMgWorldTrace3
import Derived.Test.YtglokdbiggbkjaaGreatMgWorldTrace6
import Derived.Test.YtglokdbiggbkjaaGreatMgWorldTrace10
import Derived.Test.YtglokdbiggbkjaaGreatMgWorldTrace13
set_option linter.unusedVariables false
set_option linter.unusedSimpArgs false
set_option linter.defProp false
set_option maxRecDepth 100000
set_option maxHeartbeats 16000000
open Go.Proofs.Tryz
namespace Go.Proofs.YtglokdbiggbkjaaGreat
open Go.IntKind(i64)
open Go.Value(int bool slice agg tuple pointer)
open Go.Ending(returned)
open Go.Obj(cells)
variable{w':World}{a j n:Nat}{u:Value}{B t m x:Int}{f f':Int->Int}{W:List Int}
section
open Go.RowKit
section
variable{w w0:World}{g k bx:Nat}{x:Fx}{s s':Ar}{S S':List Sp}
def KIs.ci(h:KIs w a g 5 x s S):w.cell? x.l=some ↑a/\Z w x.l 1 (J x.t)/\Z w x.l 2 (slice (some ⟨x.q,0,none⟩) x.n x.cap):=⟨h.lk.cell 0,h.lk.cell 1,h.lk.cell 2⟩
structure KBx(w0 w:World)(a g:Nat)(x:Fx)(s:Ar)(S:List Sp)(bx:Nat):Prop where
 ki:KIs w a g 5 x s S
 bk:Blk w bx 299 #[↑x.l]
 nS:bx∉[a,g,x.q]
 tn:aa [a,g,x.q] w0 w
def KBx.to(h:KBx w0 w a g x s S bx)(k:KIs w' a g 5 x s' S')(t:aa [a,g,x.q] w w'):KBx w0 w' a g x s' S' bx:=⟨k,t.blk h.bk h.nS,h.nS,h.tn.trans t⟩
def KBx.drew(h:KBx w0 w a g x s S bx):KBx w0 w.drew a g x s S bx:=h.to (h.ki.below (Below.refl _ _).drew) (aa.refl _ _).drew
def KBx.op(h:KBx w0 w a g x s S bx)(t:aa [a,g] w w')(H:aB w' a g s'):KBx w0 w' a g x s' S bx:=h.to (h.ki.op t H) (aK t)
def KBx.put(h:KBx w0 w a g x s S bx){i:Nat}{p p':Sp}(O:S[i]? =some p)(I:j<4)(H:(bm p).set j u=bm p'):KBx w0 (w.setCell ⟨x.q,i*4+j,none⟩ u) a g x s (S.set i p') bx:=h.to (h.ki.put O I H) (aI (aW _ _ _))
def KBx.put0(h:KBx w0 w a g x s S bx){i:Nat}{p p':Sp}(I:S[i]? =some p)(H:(bm p).set 0 u=bm p'):KBx w0 (w.setCell ⟨x.q,i*4,none⟩ u) a g x s (S.set i p') bx:=h.put I (j:=0) ahA H
def KBx.new(h:KIs w a g 5 x s S):KBx w (w.alloc (cells #[↑x.l] 299)) a g x s S w.heap.size:=by have h1:=h.ar.blk.lt;have H:=h.ar.wds.lt;have I:=h.sp.lt;exact⟨h.below ((Below.refl _ _).alloc (Nat.le_refl _) _),Blk.new w _ _,by simp;omega,(aa.refl _ _).alloc _⟩
def KBx.cs(h:KBx w0 w a g x s S bx){i:Nat}{p:Sp}(H:S[i]? =some p):w.cell? bx=some ↑x.l/\w.cell? x.l=some ↑a/\Z w x.q (i*4+1) (J p.a)/\Z w x.q (i*4+2) (J p.b):=⟨h.bk.cell 0,h.ki.ci.1,h.ki.sp.cell H 1 _ rfl,h.ki.sp.cell H 2 _ rfl⟩
def nB(h:KBx w0 w a g x s S bx)(n r:Int)(V:(x.t:Int)+n=r)(I:-10<=n/\n<=10000000000000):E 457 #[J n,↑bx] w λe w'=>e= returned (J r)/\w=w':=by
 have c0:w.cell? bx=some ↑x.l:=h.bk.cell 0;have c1:=h.ki.ci.2.1;have t1:=h.ki.t1;have H:IntKind.i64.wrap ((x.t:Int)+n)=r:=by rw[V];exact IntWalk.i64_in _ ahy
 clear h V;go_enter func457,ntmps457;exact aab
def zC(h:KIs w a g 5 x s S)(i:Nat)(u b z:Int)(hp:S[i]? =some (⟨1,u,b,z⟩:Sp))(Y:s.ops+1<=1000000000000)(hu:0<=u/\u<=1000000000000):E 454 #[↑x.l,J i] w (dH w a g 5 x s S i ⟨1,u,b,z⟩):=by
  refine aiR ?_;intro hi;have hn:=h.n32;refine ajm ?_;intro L3 N0 HP;obtain⟨O,I⟩:=LE ((x.t:Int)+u);obtain⟨ab,hv⟩:=LE (ae s O 1);have HX:Kq (bS 5 x.t x.m s i ⟨1,u,b,z⟩=(ab,⟨2,u,b,z⟩)):=qh (by rw[hv,I];rfl);have V:=(λW (k:KIs W a g 5 x s S)=>an k.ar O 1 Y);rw[<-hv]at V;have HO:=qh V;have HB:=qh (λW (k:KBx w W a g x s S w.heap.size)=>nB k u O I.symm ahy);have t1:=h.t1;clear V h hp hv I;go_enter func454,ntmps454;refine ajs ?_;intro a0 b0 N1;go_wp2_with (go_at_call 456;refine(L3.o _ N0.o).mono ?_;rintro e w' ⟨rfl,rfl⟩);go_wp2_with fail
  go_region_held3 (λW=>W.cell? w.heap.size=some ↑x.l/\W.cell? x.l=some ↑a/\Z W x.q (i*4+1) (J u)/\Z W x.q (i*4+2) (J b))
    (first|with_reducible exact N1.o.cs HP.o|with_reducible exact H.o.cs HP.o)
    (first
      | (go_at_call 457;go_loud (refine LT (HB.o _ N1.o) ?_))
      | (go_at_call 177;go_loud (refine Pi (HO.o _ N1.o.ki) λw3 a3=>?_);have H:=qh (N1.o.op a3.o.2 a3.o.1)))
  all_goals have d0:=aaa (H.o.ki.sp.cell HP.o 0 _ rfl);have z0:=H.o.ki.sp.free (i*4);have N3:=qh (H.o.put0 HP.o (p':=(⟨2,u,b,z⟩:Sp)) (u:= J 2) rfl);go_wp2;go_ret;rw[dH,HX.o];exact⟨rfl,N3.o.ki,N3.o.tn⟩
def zD(h:KIs w a g 5 x s S)(i:Nat)(u b z:Int)(hp:S[i]? =some (⟨2,u,b,z⟩:Sp))(Y:s.ops+1<=1000000000000)(hu:0<=u/\u<=1000000000000):E 454 #[↑x.l,J i] w (dH w a g 5 x s S i ⟨2,u,b,z⟩):=by
  refine aiR ?_;intro hi;have hn:=h.n32;refine ajm ?_;intro L3 N0 HP;obtain⟨V,LB⟩:=LE ((x.t:Int));obtain⟨ab,hv⟩:=LE (cz s V u);obtain⟨v,O⟩:=LE (ldW s.W V);have HX:Kq (bS 5 x.t x.m s i ⟨2,u,b,z⟩=(ab,⟨3,u,v,z⟩)):=qh (by rw[hv,O,LB];rfl);have hr:=(λW (k:KIs W a g 5 x s S)=>fw k.ar V u Y);rw[<-hv,<-O]at hr;have HO:=qh hr;have HB:=qh (λW (k:KBx w W a g x s S w.heap.size)=>nB k 0 V (by rw[LB];omega) ahy);have HC:=qh (λW s (S:List Sp) (N:KBx w W a g x s S w.heap.size) (y:Int) (hp:S[i]? =some (⟨2,u,y,z⟩:Sp))=>And.intro (N.cs hp).1 (And.intro (N.cs hp).2.1 (N.cs hp).2.2.1));have t1:=h.t1;clear hr h hp hv LB O;go_enter func454,ntmps454;refine ajs ?_;intro a0 b0 N1;go_wp2_with (go_at_call 456;refine(L3.o _ N0.o).mono ?_;rintro e w' ⟨rfl,rfl⟩);go_wp2_with fail
  go_region_held3 (λW=>W.cell? w.heap.size=some ↑x.l/\W.cell? x.l=some ↑a/\Z W x.q (i*4+1) (J u))
    (first|with_reducible exact HC.o _ _ _ N1.o _ HP.o|with_reducible exact HC.o _ _ _ H.o _ HP.o|with_reducible exact HC.o _ _ _ I.o _ (au HP.o _))
    (first
      | (go_at_call 457;go_loud (refine LT (HB.o _ N1.o) ?_))
      | (go_at_call 271;go_loud (refine Pi (HO.o _ N1.o.ki) λw3 a3=>?_);have H:=qh (N1.o.op a3.o.2 a3.o.1);have I:=qh (H.o.put (p':=(⟨2,u,v,z⟩:Sp)) HP.o (j:=2) (u:= J v) ahA rfl);have e1:=H.o.ki.sp.cell HP.o 2 _ rfl;have z1:=H.o.ki.sp.free (i*4+2)))
  all_goals have d0:=aaa (I.o.ki.sp.cell (au HP.o _) 0 _ rfl);have z0:=I.o.ki.sp.free (i*4);have N4:=qh (I.o.put0 (au HP.o _) (p':=(⟨3,u,v,z⟩:Sp)) (u:= J 3) rfl);clear e1 z1;go_wp2;go_ret;rw[dH,HX.o];have k:=N4.o.ki;rw[ed]at k;exact⟨rfl,k,N4.o.tn⟩
def zE(h:KIs w a g 5 x s S)(i:Nat)(u b z:Int)(hp:S[i]? =some (⟨3,u,b,z⟩:Sp))(Y:s.ops+1<=1000000000000)(I:0<=b/\b<=1000000000000):E 454 #[↑x.l,J i] w (dH w a g 5 x s S i ⟨3,u,b,z⟩):=by
  refine aiR ?_;intro hi;have hn:=h.n32;refine ajm ?_;intro L3 N0 HP;obtain⟨ad,LB⟩:=LE ((x.t:Int)+b);obtain⟨ab,hv⟩:=LE (af s ad);obtain⟨v,O⟩:=LE (ldW s.W ad);have HX:Kq (bS 5 x.t x.m s i ⟨3,u,b,z⟩=(ab,⟨if v=0 then 10 else 3,u,b,z⟩)):=qh (by rw[hv,O,LB];rfl);have hr:=(λW (k:KIs W a g 5 x s S)=>aE k.ar ad Y);rw[<-hv,<-O]at hr;have HO:=qh hr;have HB:=qh (λW (k:KBx w W a g x s S w.heap.size)=>nB k b ad LB.symm ahy);have t1:=h.t1;clear hr h hp hv LB O;cases hc:(v==0)
  . go_enter func454,ntmps454;refine ajs ?_;intro a0 b0 N1;go_wp2_with (go_at_call 456;refine(L3.o _ N0.o).mono ?_;rintro e w' ⟨rfl,rfl⟩);go_wp2_with fail;refine wp_region_held_drew (S:=(λW=>W.cell? w.heap.size=some ↑x.l/\W.cell? x.l=some ↑a/\Z W x.q (i*4+1) (J u)/\Z W x.q (i*4+2) (J b))) ahB (by exact N1.o.cs HP.o) (λhHeld=>?_);refine ai8 ?_;refine wpAnyH_ready (rs:=[9]) ahB ahz ?_;refine AllReadyH.cons rfl (λK hK=>?_) AllReadyH.nil;go_simp;go_at_call 457;refine LT (HB.o _ N1.o) ?_;refine hK.out _ _ ?_ (λhHeld=>?_);. exact N1.o.cs HP.o
    clear hK K;try simp only[Act.put,List.setIfInBounds_toArray,List.set_cons_zero,List.set_cons_succ,List.getElem_toArray,List.getElem_cons_zero,List.getElem_cons_succ]
    refine wpAnyH_ready (rs:=[10]) ahB ahz ?_;refine AllReadyH.cons rfl (λK hK=>?_) AllReadyH.nil;go_simp;go_at_call 173;refine Pi (HO.o _ N1.o.ki) λw3 a3=>?_;have H:=qh (N1.o.op a3.o.2 a3.o.1);refine hK.out _ _ ?_ (λhHeld=>?_);. exact H.o.cs HP.o
    clear hK K;try simp only[Act.put,List.setIfInBounds_toArray,List.set_cons_zero,List.set_cons_succ,List.getElem_toArray,List.getElem_cons_zero,List.getElem_cons_succ]
    refine tk 11 ?_;refine tk 12 ?_;refine tk 13 ?_;refine tk 14 ?_;refine tk 15 ?_;refine tk 16 ?_;refine tk 17 ?_;refine wpAnyH_done ahB ?_ _;go_wp2;go_ret;rw[dH,HX.o];rw[if_neg ahF,cr HP.o];exact⟨rfl,H.o.ki,H.o.tn⟩
  . go_enter func454,ntmps454;refine ajs ?_;intro a0 b0 N1;go_wp2_with (go_at_call 456;refine(L3.o _ N0.o).mono ?_;rintro e w' ⟨rfl,rfl⟩);go_wp2_with fail;first
    | (go_region_held3 (λW=>W.cell? w.heap.size=some ↑x.l/\W.cell? x.l=some ↑a/\Z W x.q (i*4+1) (J u)/\Z W x.q (i*4+2) (J b))
        (first|with_reducible exact N1.o.cs HP.o|with_reducible exact H.o.cs HP.o|with_reducible exact N4.o.cs (au HP.o _))
        (first
          | (go_at_call 457;go_loud (refine LT (HB.o _ N1.o) ?_))
          | (go_at_call 173;go_loud (refine Pi (HO.o _ N1.o.ki) λw3 a3=>?_);have H:=qh (N1.o.op a3.o.2 a3.o.1);have HT:=qh (kv .clh i _ _ HP.o (by rw[cr HP.o];exact H.o.ki) 10))
          | (go_at_call 455;go_loud (refine Pi HT.o λw4 k4=>?_);have N4:=qh (H.o.to k4.o.1 (aI k4.o.2)))))
    | fail "held"
    all_goals go_wp2;go_ret;rw[dH,HX.o];rw[if_pos ahF];exact⟨rfl,N4.o.ki,N4.o.tn⟩
def wJ(h:KIs w a g 5 x s S)(i:Nat)(u b z:Int)(hp:S[i]? =some (⟨11,u,b,z⟩:Sp))(Y:s.ops+1<=1000000000000)(hu:0<=u/\u<=1000000000000):E 454 #[↑x.l,J i] w (dH w a g 5 x s S i ⟨11,u,b,z⟩):=by
  refine aiR ?_;intro hi;have hn:=h.n32;refine ajm ?_;intro L3 N0 HP;obtain⟨O,I⟩:=LE ((x.t:Int)+u);obtain⟨ab,hv⟩:=LE (ae s O 0);have HX:Kq (bS 5 x.t x.m s i ⟨11,u,b,z⟩=(ab,⟨0,b,b,z⟩)):=qh (by rw[hv,I];rfl);have V:=(λW (k:KIs W a g 5 x s S)=>an k.ar O 0 Y);rw[<-hv]at V;have HO:=qh V;have HB:=qh (λW (k:KBx w W a g x s S w.heap.size)=>nB k u O I.symm ahy);have t1:=h.t1;clear V h hp hv I;go_enter func454,ntmps454;refine ajs ?_;intro a0 b0 N1;go_wp2_with (go_at_call 456;refine(L3.o _ N0.o).mono ?_;rintro e w' ⟨rfl,rfl⟩);go_wp2_with fail
  go_region_held3 (λW=>W.cell? w.heap.size=some ↑x.l/\W.cell? x.l=some ↑a/\Z W x.q (i*4+1) (J u)/\Z W x.q (i*4+2) (J b))
    (first|with_reducible exact N1.o.cs HP.o|with_reducible exact H.o.cs HP.o)
    (first
      | (go_at_call 457;go_loud (refine LT (HB.o _ N1.o) ?_))
      | (go_at_call 177;go_loud (refine Pi (HO.o _ N1.o.ki) λw3 a3=>?_);have H:=qh (N1.o.op a3.o.2 a3.o.1)))
  all_goals have d1:=H.o.ki.sp.cell HP.o 1 _ rfl;have d2:=H.o.ki.sp.cell HP.o 2 _ rfl;have z1:=H.o.ki.sp.free (i*4+1);have b2:=H.o.bk.cell 0;have N3:=qh (H.o.put HP.o (p':=(⟨11,b,b,z⟩:Sp)) (j:=1) (u:= J b) ahA rfl);have HT:=qh (kv .clh i _ _ HP.o N3.o.ki 0);go_wp2_with (go_at_call 455;refine HT.o.mono ?_;rintro e w' ⟨rfl,k4,t4⟩;have N4:=qh (N3.o.to k4 (aI t4));clear k4 t4);go_ret;rw[dH,HX.o];exact⟨rfl,N4.o.ki,N4.o.tn⟩
def qL(h:KIs w a g 5 x s S)(i:Nat)(p:Sp)(hp:S[i]? =some p)(H:p.pc=0\/p.pc=10):E 454 #[↑x.l,J i] w (dH w a g 5 x s S i p):=by
  refine aiR ?_;intro hi;refine ajm ?_;intro L3 N0 HP;obtain⟨c,u,b,z⟩:=p;clear h hp;simp only at H;rcases H with rfl|rfl
  all_goals go_enter func454,ntmps454;refine ajs ?_;intro a0 b0 N1;go_wp2_with (go_at_call 456;refine(L3.o _ N0.o).mono ?_;rintro e w' ⟨rfl,rfl⟩);go_ret;refine⟨rfl,?_,N0.o.tn⟩;have k:=N0.o.ki;rw[<-cr HP.o]at k;exact k
def yg(h:KIs w a g 5 x s S)(i:Nat)(p:Sp)(hp:S[i]? =some p)(I':p.pc=10)(Y:s.ops+1<=1000000000000):E 449 #[↑x.l,J i] w (pX w a g 5 x s S i p):=by
  refine aiR ?_;intro hi;have hn:=h.n32;have OH:=h.cap;have LN:=aP;have t2:¬(i:Int)<0:=by omega
  obtain⟨c,u,b,z⟩:=p;simp only at I';subst I';obtain⟨ab,hv⟩:=LE (af s x.t);obtain⟨v,O⟩:=LE (ldW s.W x.t);have HX:Kq (cG 5 x.t s i ⟨10,u,b,z⟩=(ab,decide (v=u))):=qh ahK;have hr:=(λW (k:KIs W a g 5 x s S)=>aE k.ar x.t Y);rw[<-hv,<-O]at hr;have HO:=qh hr;have HS:=qh (λW (k:KIs W a g 5 x s S)=>ew .clh k i _ hp);have H:Kq (∀W s (S':List Sp),KIs W a g 5 x s S'->S'[i]? =some (⟨10,u,b,z⟩:Sp)->W.cell? x.l=some ↑a/\Z W x.l 1 (J x.t)/\Z W x.l 2 (slice (some ⟨x.q,0,none⟩) x.n x.cap)/\Z W x.q (i*4+1) (J u)):=qh (λW s S' k hp=>⟨k.ci.1,k.ci.2.1,k.ci.2.2,k.sp.cell hp 1 _ rfl⟩);have I:=qh hp;have V:=qh (h.below ((Below.refl _ w).drew));clear hr h hp hv O;cases hd:(v==u)
  all_goals
    go_enter func449,ntmps449;go_wp2_with fail;first
    | (go_region_held3 (λW=>W.cell? x.l=some ↑a/\Z W x.l 1 (J x.t)/\Z W x.l 2 (slice (some ⟨x.q,0,none⟩) x.n x.cap)/\Z W x.q (i*4+1) (J u))
        (first|with_reducible exact H.o _ _ _ V.o I.o|with_reducible exact H.o _ _ _ K2.o I.o|with_reducible exact H.o _ _ _ K3.o I.o)
        (first
          | (go_at_call 453;go_loud (refine(HS.o _ V.o).mono ?_);unfold aC;rintro en w2 ⟨rfl,b2⟩;have K2:=qh (V.o.below b2);have T2:=qh (((aa.refl [a,g,x.q] w).drew).trans (aa.of_below b2));clear b2)
          | (go_at_call 173;go_loud (refine Pi (HO.o _ K2.o) λw3 a3=>?_);have K3:=qh (K2.o.op a3.o.2 a3.o.1);have T3:=qh (T2.o.trans (aK a3.o.2)))))
    | fail "held"
  all_goals go_wp2;go_ret;rw[pX,HX.o];first| exact⟨by rw[decide_eq_true ahO];rfl,K3.o,T3.o⟩| exact⟨by rw[decide_eq_false ahO];rfl,K3.o,T3.o⟩
end
end
section
open Go.RowKit
variable{P:Prop}
def ifV(k l:Nat):Value:=
 match k with
 |1=> .iface 289 (agg #[↑l])
 |2=> .iface 290 ↑l
 |3=> .iface 293 ↑l
 |4=> .iface 296 ↑l
 |_=> .iface 299 ↑l
structure dy(w:World)(a g k:Nat)(x:Fx)(s:Ar)(S:List Sp):Prop where
 p:Blk w x.p 303 #[int i64 (k:Int),ifV k x.l]
 ki:KIs w a g k x s S
 pa:x.p≠a
 pg:x.p≠g
 pq:x.p≠x.q
def KOk(k:Nat):Prop:=k=1\/k=2\/k=3\/k=4\/k=5
def KOk.of{k:Nat}(h:1<=k/\k<=5):KOk k:=by unfold KOk;omega
def KOk.le{k:Nat}(h:KOk k):1<=k/\k<=5:=by unfold KOk at h;omega
def pcK(k:Nat)(p:Sp):Prop:=
 if k=4 then iX p else if k=5 then p.pc=0\/p.pc=1\/p.pc=2\/p.pc=3\/p.pc=10\/p.pc=11 else p.pc=0\/p.pc=1\/p.pc=2\/p.pc=10\/p.pc=11
section
variable{w:World}{g k:Nat}{x:Fx}{s s':Ar}{S S':List Sp}{T:List Nat}
def dy.turns(h:dy w a g k x s S)(t:aa T w w')(H:x.p∉T)(h1:x.l∉T)(I:a∉T)(O:g∉T)(V:x.q∉T):dy w' a g k x s S:=
 {h with p:=t.blk h.p H,ki:=h.ki.turns t h1 I O V}
def dy.below(h:dy w a g k x s S)(t:Below w.heap.size w w'):dy w' a g k x s S:=
 h.turns (T:=[]) (aa.of_below t) ahz ahz ahz ahz ahz
def dy.to(h:dy w a g k x s S)(t:aa [a,g,x.q] w w')(H:KIs w' a g k x s' S'):dy w' a g k x s' S':=
 {h with p:=t.blk h.p (by simp[h.pa,h.pg,h.pq]),ki:=H}
def dy.oth(h:dy w a g k x s S)(t:aa T w w')(O:aB w' a g s')(H:x.p∉T)(h1:x.l∉T)(I:x.q∉T):dy w' a g k x s' S:=
 {h with p:=t.blk h.p H,ki:={h.ki with ar:=O,lk:=t.blk h.ki.lk h1,sp:=h.ki.sp.turns t I}}
def lH(h:dy w a g k x s S)(H:k≠0):E 244 #[↑x.p] w λe w'=>e= returned (bool true)/\w=w':=by
 have c0:w.cell? x.p=some (J (k:Int)):=h.p.cell 0;have u0:((k:Int) !=0)=true:=by simpa using H
 clear h;go_enter func244,ntmps244;exact aab
def zJ(h:KIs w a g 2 x s S)(C:lh 2 x s S B)(i:Nat)(p:Sp)(H:S[i]? =some p)(hc:pcK 2 p):E 418 #[↑x.l,J i] w (dH w a g 2 x s S i p):=by
  have I:=C.sp H;have Y:=C.ops;have hB:=C.B1;have KD:=C.B0;have V:=C.w.ld ahy x.t;have O:p.pc=0\/p.pc=1\/p.pc=2\/p.pc=10\/p.pc=11:=hc;obtain⟨pc,u,b,z⟩:=p;have a0:=I.a0;have a1:=I.a1;simp only at O a0 a1;rcases O with rfl|rfl|rfl|rfl|rfl
  . exact pI h i _ H (.inl rfl)
  . exact wN h i u b z H Y C.inr V.1 ahy
  . exact wO h i u b z H Y
  . exact pI h i _ H (.inr rfl)
  . exact uz h i u b z H Y ahy ahy
def zI(h:KIs w a g 1 x s S)(C:lh 1 x s S B)(i:Nat)(p:Sp)(H:S[i]? =some p)(hc:pcK 1 p):E 410 #[↑x.l,J i] w (dH w a g 1 x s S i p):=by
  have I:=C.sp H;have Y:=C.ops;have V:=C.B1;have O:p.pc=0\/p.pc=1\/p.pc=2\/p.pc=10\/p.pc=11:=hc;obtain⟨pc,u,b,z⟩:=p;have a0:=I.a0;have a1:=I.a1;have b0:=I.b0;have b1:=I.b1;simp only at O a0 a1 b0 b1;rcases O with rfl|rfl|rfl|rfl|rfl
  . exact qM h i _ H (.inl rfl)
  . exact zG h i u b z H Y a0 ahy
  . exact zH h i u b z H ahy ahy
  . exact qM h i _ H (.inr rfl)
  . exact wM h i u b z H Y
def zF(h:KIs w a g 3 x s S)(C:lh 3 x s S B)(i:Nat)(p:Sp)(H:S[i]? =some p)(hc:pcK 3 p):E 430 #[↑x.l,J i] w (dH w a g 3 x s S i p):=by
  have I:=C.sp H;have Y:=C.ops;have hB:=C.B1;have KD:=C.B0;have V:=C.w.ld ahy x.t;have O:p.pc=0\/p.pc=1\/p.pc=2\/p.pc=10\/p.pc=11:=hc;obtain⟨pc,u,b,z⟩:=p;have a0:=I.a0;have a1:=I.a1;simp only at O a0 a1;rcases O with rfl|rfl|rfl|rfl|rfl
  . exact pH h i _ H (.inl rfl)
  . exact wK h i u b z H Y C.inr V.1 ahy
  . exact wL h i u b z H Y ⟨a0,by omega⟩
  . exact pH h i _ H (.inr rfl)
  . exact uy h i u b z H Y ⟨a0,by omega⟩
def CZ(h:KIs w a g 5 x s S)(C:lh 5 x s S B)(i:Nat)(p:Sp)(H:S[i]? =some p)(hc:pcK 5 p):E 454 #[↑x.l,J i] w (dH w a g 5 x s S i p):=by
  have I:=C.sp H;have Y:=C.ops;have V:=C.B1;have O:p.pc=0\/p.pc=1\/p.pc=2\/p.pc=3\/p.pc=10\/p.pc=11:=hc;obtain⟨pc,u,b,z⟩:=p;have a0:=I.a0;have a1:=I.a1;have b1:=I.b1;have b2:=I.b2 ahA;simp only at O a0 a1 b1 b2;rcases O with rfl|rfl|rfl|rfl|rfl|rfl
  . exact qL h i _ H (.inl rfl)
  . exact zC h i u b z H Y ⟨a0,by omega⟩
  . exact zD h i u b z H Y ⟨a0,by omega⟩
  . exact zE h i u b z H Y ⟨b2,by omega⟩
  . exact qL h i _ H (.inr rfl)
  . exact wJ h i u b z H Y ⟨a0,by omega⟩
def sr(h:KIs w a g 2 x s S)(i:Nat)(p:Sp)(H:S[i]? =some p):E 417 #[↑x.l,J i] w λe w'=>e= returned (aC p)/\Below w.heap.size w w':=by refine ai5 ?_;intro b1;have h1:=h.below b1;have O:=qh (ew .ticket h1 i p H);have HB:=qh b1;clear h h1 H b1;go_enter func417,ntmps417;go_wp2_with (go_at_call 419;refine(eB _ _).mono ?_;rintro e w' ⟨rfl,rfl⟩);go_wp2_with fail;refine ST O.o λw2 b2=>?_;exact rY
def Ab(w:World)(a g k:Nat)(x:Fx)(s:Ar)(S:List Sp)(i:Nat)(p:Sp)(e:Ending)(w':World):Prop:=
 e= returned (bool (bB p (bS k x.t x.m s i p).2))/\dy w' a g k x (bS k x.t x.m s i p).1 (S.set i (bS k x.t x.m s i p).2)/\aa [a,g,x.q] w w'
def Fs(w:World)(a g k:Nat)(x:Fx)(s:Ar)(S:List Sp)(i:Nat)(p:Sp)(e:Ending)(w':World):Prop:=
 e= returned (bool (cG k x.t s i p).2)/\dy w' a g k x (cG k x.t s i p).1 S/\aa [a,g,x.q] w w'
def iP(h:P:=by
    unfold ifV at c1
    clear h hp
    first
      | go_enter func241,ntmps241
      | go_enter func248,ntmps248
      | go_enter func245,ntmps245
      | go_enter func247,ntmps247
    go_wp2_with fail
    refine HM.o.mono ?_
    rintro en w1 ⟨rfl,rfl⟩
    go_wp2_with fail
    refine H2.o.mono ?_
    rintro en w2 ⟨rfl,k2,t2⟩
    have H3:=qh (And.intro k2 t2)
    clear k2 t2
    go_wp2
    go_ret
    first
      | exact⟨rfl,H.o.to H3.o.2 H3.o.1,H3.o.2⟩
      | exact⟨rfl,H.o.to (aI H3.o.2) H3.o.1,H3.o.2⟩):P:=h
def vp(h:dy w a g k x s S)(hk:KOk k)(i:Nat)(p:Sp)(hp:S[i]? =some p):E 241 #[↑x.p,J i] w λe w'=>e= returned (bool (decide (p.pc=0)))/\dy w' a g k x s (S.set i (askK k p))/\aa [x.q] w w':=by
  refine ajP ?_;intro HM c1 H;rcases hk with rfl|rfl|rfl|rfl|rfl
  . have H2:=qh (Dl h.ki i p hp);exact iP
  . have H2:=qh (uO h.ki i p hp);exact iP
  . have H2:=qh (uN .parted h.ki i p hp);exact iP
  . have H2:=qh (uN .mcs h.ki i p hp);exact iP
  . have H2:=qh (uN .clh h.ki i p hp);exact iP
def oV(h:dy w a g k x s S)(hk:KOk k)(i:Nat)(p:Sp)(hp:S[i]? =some p):E 248 #[↑x.p,J i] w λe w'=>e= returned (bool (decide (p.pc=10)))/\dy w' a g k x s (S.set i (bf p))/\aa [x.q] w w':=by
  refine ajP ?_;intro HM c1 H;rcases hk with rfl|rfl|rfl|rfl|rfl
  . have H2:=qh (yT h.ki i p hp);exact iP
  . have H2:=qh (rx h.ki i p hp);exact iP
  . have H2:=qh (pd .parted h.ki i p hp);exact iP
  . have H2:=qh (pd .mcs h.ki i p hp);exact iP
  . have H2:=qh (pd .clh h.ki i p hp);exact iP
def rf(h:dy w a g k x s S)(hk:KOk k)(i:Nat)(p:Sp)(hp:S[i]? =some p)(C:lh k x s S B)(hc:pcK k p):E 245 #[↑x.p,J i] w (Ab w a g k x s S i p):=by
  refine ajP ?_;intro HM c1 H;rcases hk with rfl|rfl|rfl|rfl|rfl
  . have H2:=qh (zI h.ki C i p hp hc);exact iP
  . have H2:=qh (zJ h.ki C i p hp hc);exact iP
  . have H2:=qh (zF h.ki C i p hp hc);exact iP
  . have H2:=qh (C0 h.ki C i p hp hc);exact iP
  . have H2:=qh (CZ h.ki C i p hp hc);exact iP
def Bu(h:dy w a g k x s S)(hk:KOk k)(i:Nat)(p:Sp)(hp:S[i]? =some p)(C:lh k x s S B)(hc:p.pc=10):E 247 #[↑x.p,J i] w (Fs w a g k x s S i p):=by
  refine ajP ?_;intro HM c1 H;rcases hk with rfl|rfl|rfl|rfl|rfl
  . have H2:=qh (uL h.ki i p hp hc);exact iP
  . have H2:=qh (uM h.ki i p hp hc C.ops (by have:=(C.sp hp).a0;omega) (by have:=(C.sp hp).a1;have:=C.B1;omega));exact iP
  . have H2:=qh (qV h.ki i p hp hc C.ops ⟨(C.sp hp).a0,by have:=(C.sp hp).a1;have:=C.B1;omega⟩);exact iP
  . have H2:=qh (yh h.ki i p hp hc C.ops);exact iP
  . have H2:=qh (yg h.ki i p hp hc C.ops);exact iP
def Bt(h:P:=by
    unfold ifV at c1
    clear h h1 hp b1
    go_enter func360,ntmps360
    go_wp2_with fail
    refine HM.o.mono ?_
    rintro en w1 ⟨rfl,rfl⟩
    go_wp2_with fail
    refine HS.o.mono ?_
    rintro en w2 ⟨rfl,b2⟩
    exact rY):P:=h
def xy(h:dy w a g k x s S)(hk:KOk k)(i:Nat)(p:Sp)(hp:S[i]? =some p):E 360 #[↑x.p,J i] w λe w'=>e= returned (aC p)/\Below w.heap.size w w':=by
  have H:=h.p.lt;refine ai5 ?_;intro b1;have h1:=h.below b1;have c1:(w.alloc (cells #[J 0,J 0,J 0,J 0] 113)).cell? ⟨x.p,1,none⟩=some (ifV k x.l):=h1.p.cell 1;have HM:=qh (lH h1 ah9);have HB:=qh b1;rcases hk with rfl|rfl|rfl|rfl|rfl
  . have HS:=qh (ew .tas h1.ki i p hp);exact Bt
  . have HS:=qh (sr h1.ki i p hp);exact Bt
  . have HS:=qh (ew .parted h1.ki i p hp);exact Bt
  . have HS:=qh (ew .mcs h1.ki i p hp);exact Bt
  . have HS:=qh (ew .clh h1.ki i p hp);exact Bt
end
end
section
open Go
variable{p p' t q:Sp}{G':List Sp}
def dt(p q:Sp):Prop:=
 (p.pc=0/\q.pc=0)\/(p.pc=1/\0<q.pc/\q.pc<10)\/
  ((p.pc=2\/p.pc=3\/p.pc=4\/p.pc=10\/p.pc=11\/p.pc=12\/p.pc=13\/p.pc=14\/p.pc=15)/\q.pc=10)\/(p.pc=16/\10<q.pc)
def jc{k:Nat}{t:Int}{s:Ar}{i:Int}(h:1<=k/\k<=5)(hc:pcK k p):pcK k (bS k t m s i p).2/\(0<p.pc->p.pc<10->0<(bS k t m s i p).2.pc/\(bS k t m s i p).2.pc<=10)/\(10<p.pc->(bS k t m s i p).2.pc=0\/10<(bS k t m s i p).2.pc):=by
  unfold bS;split;. rename_i h1;subst h1;obtain⟨pc,u,b,z⟩:=p;simp only[pcK,iX,reduceIte,show ¬(1=4)by decide,show ¬(1=5)by decide]at hc ⊢;unfold wQ;rcases hc with rfl|rfl|rfl|rfl|rfl<;>simp<;>split<;>simp<;>omega
  split;. rename_i h1;subst h1;obtain⟨pc,u,b,z⟩:=p;simp only[pcK,iX,reduceIte,show ¬(2=4)by decide,show ¬(2=5)by decide]at hc ⊢;unfold pO;rcases hc with rfl|rfl|rfl|rfl|rfl<;>simp<;>split<;>simp<;>omega
  split;. rename_i h1;subst h1;obtain⟨pc,u,b,z⟩:=p;simp only[pcK,iX,reduceIte,show ¬(3=4)by decide,show ¬(3=5)by decide]at hc ⊢;unfold pv;rcases hc with rfl|rfl|rfl|rfl|rfl<;>simp<;>split<;>simp<;>omega
  split
  . rename_i h1;subst h1;obtain⟨pc,u,b,z⟩:=p;simp only[pcK,iX,reduceIte]at hc ⊢;unfold mK;split;. unfold eP;(repeat' split)<;>simp_all<;>omega
    split;. unfold dN;(repeat' split)<;>simp_all<;>omega
    . simp only;omega
  . obtain rfl:k=5:=by omega
    obtain⟨pc,u,b,z⟩:=p;simp only[pcK,iX,reduceIte,show ¬(5=4)by decide]at hc ⊢;unfold uY;rcases hc with rfl|rfl|rfl|rfl|rfl|rfl<;>simp<;>split<;>simp<;>omega
def qZ(h:0<p.pc)(h1:p.pc<10)(H:0<p'.pc):bB p p'=decide (p'.pc=10):=by
 unfold bB;have:¬p.pc=0:=by omega
 have:¬p.pc=10:=by omega
 have:¬p'.pc=0:=by omega
 simp[*]
def oe(h:10<p.pc)(H:p'.pc=0\/10<p'.pc):bB p p'=decide (p'.pc=0):=by
 unfold bB;have:¬p.pc=0:=by omega
 have:¬p.pc=10:=by omega
 have:¬p'.pc=10:=by omega
 simp[*]
def ny{k:Nat}(h:p.pc=0):(askK k p).pc=1:=by unfold askK;rw[if_pos h];split<;>rfl
def mH(h:p.pc=10):(bf p).pc=11:=by unfold bf;rw[if_pos h]
def nY{k:Nat}(hc:pcK k p):pcK k (askK k p):=by
 by_cases h:p.pc=0;.have e:=ny (k:=k) h;unfold pcK iX;rw[e];exact aaK
 .unfold askK;rw[if_neg h];exact hc
def jv{k:Nat}(hc:pcK k p):pcK k (bf p):=by
 by_cases h:p.pc=10;.have e:=mH h;unfold pcK iX;rw[e];exact aaK
 .unfold bf;rw[if_neg h];exact hc
section
variable (c:CoC)(st:Co)(i:Nat)(u b z:Int)
def mv1:db c st i ⟨1,u,b,z⟩=((stL c st i).1,st.G,setL c st i (stL c st i).2,if mr c st i then⟨2,u,b,z⟩else⟨1,u,b,z⟩):=rfl
def mv2:db c st i ⟨2,u,b,z⟩=if 0<ldW st.s.W (c.cw (c.node i))then(af st.s (c.cw (c.node i)),st.G,st.L,⟨10,ldW st.s.W (c.cw (c.node i)),b,z⟩)
    else(af st.s (c.cw (c.node i)),st.G.set (c.node i) (askK c.kg (sv st.G (c.node i))),st.L,⟨3,ldW st.s.W (c.cw (c.node i)),b,z⟩):=rfl
def mv3:db c st i ⟨3,u,b,z⟩=((stG c st i).1,st.G.set (c.node i) (stG c st i).2,st.L,if n5 c st i then⟨4,u,b,z⟩else⟨3,u,b,z⟩):=rfl
def mv4:db c st i ⟨4,u,b,z⟩=(ae st.s (c.cw (c.node i)) 1,st.G,st.L,⟨10,1,b,z⟩):=rfl
def Gg:db c st i ⟨11,u,b,z⟩=(af st.s (c.cw (c.node i)),st.G,st.L,⟨if c.bud<ldW st.s.W (c.cw (c.node i))then 14 else 12,ldW st.s.W (c.cw (c.node i)),b,z⟩):=rfl
def Gh:db c st i ⟨12,u,b,z⟩=((cG c.kl (c.tl (c.node i)) st.s (c.slot i) (lsp st.L (c.node i) (c.slot i))).1,st.G,st.L,
    ⟨if m6 u c.bud (cG c.kl (c.tl (c.node i)) st.s (c.slot i) (lsp st.L (c.node i) (c.slot i))).2 then 13 else 14,u,b,z⟩):=rfl
def Gi:db c st i ⟨13,u,b,z⟩=(ae st.s (c.cw (c.node i)) (u+1),st.G,setL c st i (bf (lsp st.L (c.node i) (c.slot i))),⟨16,u,b,z⟩):=rfl
def Gj:db c st i ⟨14,u,b,z⟩=(ae st.s (c.cw (c.node i)) 0,st.G.set (c.node i) (bf (sv st.G (c.node i))),st.L,⟨15,u,b,z⟩):=rfl
def Gk:db c st i ⟨15,u,b,z⟩=if n5 c st i then((stG c st i).1,st.G.set (c.node i) (stG c st i).2,setL c st i (bf (lsp st.L (c.node i) (c.slot i))),⟨16,u,b,z⟩)
    else((stG c st i).1,st.G.set (c.node i) (stG c st i).2,st.L,⟨15,u,b,z⟩):=rfl
def Gl:db c st i ⟨16,u,b,z⟩=((stL c st i).1,st.G,setL c st i (stL c st i).2,if mr c st i then⟨0,u,b,z⟩else⟨16,u,b,z⟩):=rfl
end
structure CoV(c:CoC)(n:Nat)(st:Co):Prop where
 g:∀p∈st.G,pcK c.kg p
 l:∀x∈st.L,∀p∈x,pcK c.kl p
 k:∀i,i<n->dt (sv st.T i) (lsp st.L (c.node i) (c.slot i))
 lT:n<=st.T.length
 lG:∀i,i<n->c.node i<st.G.length
 lL:∀i,i<n->c.node i<st.L.length/\c.slot i<(st.L.getD (c.node i) []).length
def Inj(c:CoC)(n:Nat):Prop:=∀i j,i<n->j<n->c.node i=c.node j->c.slot i=c.slot j->i=j
def tG{L:List (List Sp)}{i:Nat}(I:n<L.length)(hi:i<(L.getD n []).length)(m j:Nat):lsp (jU L n i p) m j=if n=m/\i=j then p else lsp L m j:=by
 unfold lsp jU;rw[List.getD_eq_getElem?_getD (l:=L.set _ _),List.getElem?_set];by_cases h1:n=m
 .subst h1;rw[if_pos rfl,if_pos I];show(List.set _ _ _).getD _ _=_;rw[List.getD_eq_getElem?_getD,List.getElem?_set];by_cases H:i=j;.subst H;rw[if_pos rfl,if_pos hi,if_pos ⟨rfl,rfl⟩];rfl
  .rw[if_neg H,if_neg (λh=>H h.2),List.getD_eq_getElem?_getD (l:=L.getD n [])]
 .rw[if_neg h1,if_neg (λh=>h1 h.1),List.getD_eq_getElem?_getD (l:=L)]
def pf(L:List (List Sp))(n i:Nat)(p:Sp)(m:Nat):((jU L n i p).getD m []).length=(L.getD m []).length/\(jU L n i p).length=L.length:=by
 refine⟨?_,by unfold jU;simp⟩;unfold jU;rw[List.getD_eq_getElem?_getD,List.getElem?_set];by_cases h1:n=m
 .subst h1;rw[if_pos rfl];split;.simp
  .rename_i h;rw[List.getD_eq_getElem?_getD,List.getElem?_eq_none ahy]
 .rw[if_neg h1,List.getD_eq_getElem?_getD]
section
variable{c:CoC}{st:Co}
def CoV.lpc(h:CoV c n st){i:Nat}(hi:i<n):pcK c.kl (lsp st.L (c.node i) (c.slot i)):=by
 obtain⟨h1,H⟩:=h.lL i hi;have I:st.L.getD (c.node i) []∈st.L:=by exact aaL
 have O:lsp st.L (c.node i) (c.slot i)∈st.L.getD (c.node i) []:=by unfold lsp;rw[List.getD_eq_getElem?_getD (l:=st.L.getD _ _),List.getElem?_eq_getElem H];exact List.getElem_mem H
 exact h.l _ I _ O
def CoV.gpc(h:CoV c n st){i:Nat}(hi:i<n):pcK c.kg (sv st.G (c.node i)):=by have h1:=h.lG i hi;refine h.g _ ?_;unfold sv;exact aaL
def CoV.thr(h:CoV c n st)(O:Inj c n){i:Nat}(hi:i<n)(hl:dt t q)(j:Nat)(I:j<n)(H:List (List Sp))(V:lsp H (c.node i) (c.slot i)=q)(Y:∀m s,¬(c.node i=m/\c.slot i=s)->lsp H m s=lsp st.L m s):dt (sv (st.T.set i t) j) (lsp H (c.node j) (c.slot j)):=by
  rw[bh];by_cases e:i=j;. subst e;rw[if_pos ⟨rfl,by have:=h.lT;omega⟩,V];exact hl
  . rw[if_neg (λk=>e k.1),Y _ _ (λk=>e (O i j hi I k.1 k.2))];exact h.k j I
def CoV.upd(h:CoV c n st)(Y:Inj c n){i:Nat}(hi:i<n)(s':Ar)(V:∀p∈G',pcK c.kg p)(O:G'.length=st.G.length)(hq:pcK c.kl q)(hl:dt t q):CoV c n ⟨s',G',setL c st i q,st.T.set i t⟩:=by
 obtain⟨h1,I⟩:=h.lL i hi;refine⟨V,?_,λj H=>h.thr Y hi hl j H _ ?_ ?_,by simpa using h.lT,λj H=>by rw[O];exact h.lG j H,λj H=>?_⟩;.exact eA h.l _ (eA (h.l _ (by rw[List.getD_eq_getElem?_getD,List.getElem?_eq_getElem h1];exact List.getElem_mem h1)) _ hq)
 .unfold setL;rw[tG h1 I,if_pos ⟨rfl,rfl⟩]
 .intro m s hn;unfold setL;rw[tG h1 I,if_neg hn]
 .unfold setL;rw[(pf _ _ _ _ _).1,(pf _ _ _ _ 0).2];exact h.lL j H
def CoV.upd0(h:CoV c n st)(V:Inj c n){i:Nat}(hi:i<n)(s':Ar)(O:∀p∈G',pcK c.kg p)(I:G'.length=st.G.length)(Y:dt t (lsp st.L (c.node i) (c.slot i))):CoV c n ⟨s',G',st.L,st.T.set i t⟩:=
 ⟨O,h.l,λj H=>h.thr V hi Y j H _ rfl (λ_ _ _=>rfl),by simpa using h.lT,λj H=>by rw[I];exact h.lG j H,h.lL⟩
theorem sP(h:CoV c n st)(hI:Inj c n)(hk:(1<=c.kg/\c.kg<=5)/\1<=c.kl/\c.kl<=5){i:Nat}(hi:i<n):CoV c n (ak c st i):=by
 have H:=h.k i hi;have O:=h.lpc hi;have hg:=h.gpc hi;have sL:=jc (t:=c.tl (c.node i)) (m:=c.m) (s:=st.s) (i:=(c.slot i:Int)) hk.2 O;have sG:=jc (t:=c.tg) (m:=c.m) (s:=st.s) (i:=(c.node i:Int)) hk.1 hg;have V:∀q:Sp,(st.G.set (c.node i) q).length=st.G.length:=λq=>by simp
 have Y:∀q:Sp,pcK c.kg q->∀p∈st.G.set (c.node i) q,pcK c.kg p:=λq O=>eA h.g _ O;unfold ak;split;.exact h
 rename_i ad;obtain⟨p,hp⟩:=LE (sv st.T i);rw[<-hp]at H ad ⊢;obtain⟨q,PU⟩:=LE (lsp st.L (c.node i) (c.slot i));have hc:p.pc=1\/p.pc=2\/p.pc=3\/p.pc=4\/p.pc=11\/p.pc=12\/p.pc=13\/p.pc=14\/p.pc=15\/p.pc=16:=by unfold dt at H;omega
 obtain⟨pc,u,b,z⟩:=p;simp only at hc;have Mi:pc≠0->pc≠1->pc≠16->(lsp st.L (c.node i) (c.slot i)).pc=10:=λa0 a1 a2=>by unfold dt at H;simp only at H;omega
 have lk:∀t:Sp,(t.pc=2\/t.pc=3\/t.pc=4\/t.pc=10\/t.pc=11\/t.pc=12\/t.pc=13\/t.pc=14\/t.pc=15)->∀q:Sp,q.pc=10->dt t q:=λt ht q O=> .inr (.inr (.inl ⟨ht,O⟩))
 have ab:∀t:Sp,t.pc=16->dt t (bf (lsp st.L (c.node i) (c.slot i)))\/(lsp st.L (c.node i) (c.slot i)).pc≠10:=λt ht=>by
  by_cases e:(lsp st.L (c.node i) (c.slot i)).pc=10;.left;exact .inr (.inr (.inr ⟨ht,by rw[mH e];decide⟩))
  .right;exact e
 have Xz:∀t:Sp,t.pc=16->(lsp st.L (c.node i) (c.slot i)).pc=10->dt t (bf (lsp st.L (c.node i) (c.slot i))):=λt ht e=>(ab t ht).resolve_right (λk=>k e);rcases hc with rfl|rfl|rfl|rfl|rfl|rfl|rfl|rfl|rfl|rfl
 .have I:0<(lsp st.L (c.node i) (c.slot i)).pc/\(lsp st.L (c.node i) (c.slot i)).pc<10:=by unfold dt at H;simp only at H;omega
  have s2:=sL.2.1 I.1 I.2;have ec:mr c st i=decide ((stL c st i).2.pc=10):=qZ I.1 I.2 s2.1;rw[mv1];refine h.upd hI hi _ h.g rfl sL.1 ?_;show dt (if mr c st i then _ else _) _;rw[ec];split;.rename_i e;exact lk _ (.inl rfl) _ ahN
  .rename_i e;refine .inr (.inl ⟨rfl,s2.1,?_⟩);have:¬(stL c st i).2.pc=10:=(by simpa using e);have:=s2.2;show(stL c st i).2.pc<10;unfold stL at *;omega
 .rw[mv2];split;.exact aaM
  .exact h.upd0 hI hi _ (Y _ (nY hg)) (V _) (lk _ ahz _ (Mi ahA ahA ahA))
 .rw[mv3];refine h.upd0 hI hi _ (Y _ sG.1) (V _) ?_;show dt (if n5 c st i then _ else _) _;split<;>exact lk _ ahz _ (Mi ahA ahA ahA)
 .rw[mv4];exact aaM
 .rw[Gg];exact aaN
 .rw[Gh];exact aaN
 .rw[Gi];exact h.upd hI hi _ h.g rfl (jv O) (Xz _ rfl (Mi ahA ahA ahA))
 .rw[Gj];exact h.upd0 hI hi _ (Y _ (jv hg)) (V _) (lk _ ahz _ (Mi ahA ahA ahA))
 .rw[Gk];split;.exact h.upd hI hi _ (Y _ sG.1) (V _) (jv O) (Xz _ rfl (Mi ahA ahA ahA))
  .exact h.upd0 hI hi _ (Y _ sG.1) (V _) (lk _ ahz _ (Mi ahA ahA ahA))
 .have I:10<(lsp st.L (c.node i) (c.slot i)).pc:=by unfold dt at H;simp only at H;omega
  have s2:=sL.2.2 I;have ec:mr c st i=decide ((stL c st i).2.pc=0):=oe I s2;rw[Gl];refine h.upd hI hi _ h.g rfl sL.1 ?_;show dt (if mr c st i then _ else _) _;rw[ec];split;.rename_i e;exact .inl ⟨rfl,by simpa using e⟩
  .rename_i e;refine .inr (.inr (.inr ⟨rfl,?_⟩));have:¬(stL c st i).2.pc=0:=(by simpa using e);show 10<(stL c st i).2.pc;unfold stL at *;omega
def xq(h:CoV c n st)(O:Inj c n){i:Nat}(hi:i<n):CoV c n (bG c st i):=by
 unfold bG;split
 .rename_i e;have I:=h.k i hi;have H:(lsp st.L (c.node i) (c.slot i)).pc=0:=by unfold dt at I;omega
  exact h.upd O hi _ h.g rfl (nY (h.lpc hi)) (.inr (.inl ⟨rfl,by rw[ny H];decide,by rw[ny H];decide⟩))
 .exact h
def ql(h:CoV c n st)(I:Inj c n){i:Nat}(hi:i<n):CoV c n (aA st i):=by
 unfold aA;split;.rename_i e;have H:=h.k i hi;exact h.upd0 I hi _ h.g rfl (.inr (.inr (.inl ⟨by simp,by unfold dt at H;omega⟩)))
 .exact h
end
end
section
open Go
def eM(s s':Ar):Prop:=s'.ops<=s.ops+1/\s'.W.length=s.W.length
def eM.refl(s:Ar):eM s s:=⟨by omega,rfl⟩
def gq(s:Ar)(x:Int):eM s (af s x):=⟨iW _ _,by rw[aQ]⟩
def iZ(s:Ar)(x v:Int):eM s (ae s x v):=⟨ij _ _ _,by rw[ay,bQ]⟩
def Ct(s:Ar)(x v:Int):eM s (cz s x v):=⟨fd _ _ _,by rw[dQ,bQ]⟩
def lJ(s:Ar)(x v:Int):eM s (addA s x v):=⟨jI _ _ _,by rw[d7,bQ]⟩
def Ey(s:Ar)(x o v:Int):eM s (dY s x o v):=⟨oj _ _ _ _,by rw[gX];split<;>simp[bQ]⟩
def dc(k:Nat)(t m:Int)(s:Ar)(i:Int)(p:Sp):eM s (bS k t m s i p).1:=by unfold bS wQ pO pv mK eP dN uY;(repeat' split)<;>(try dsimp only)<;>first|with_reducible exact eM.refl _|with_reducible exact gq _ _|with_reducible exact iZ _ _ _|with_reducible exact Ct _ _ _|with_reducible exact lJ _ _ _|with_reducible exact Ey _ _ _ _
def tY(k:Nat)(t:Int)(s:Ar)(i:Int)(p:Sp):eM s (cG k t s i p).1:=by unfold cG;(repeat' split)<;>(try dsimp only)<;>first|with_reducible exact eM.refl _|with_reducible exact gq _ _
section
variable{c:CoC}{st:Co}
def zg(i:Nat)(p:Sp):eM st.s (db c st i p).1:=by unfold db yH qo stL stG;(repeat' split)<;>(try dsimp only)<;>first|with_reducible exact eM.refl _|with_reducible exact gq _ _|with_reducible exact iZ _ _ _|with_reducible exact dc _ _ _ _ _ _|with_reducible exact tY _ _ _ _ _
def mY(i:Nat):eM st.s (ak c st i).s:=by
 unfold ak;split;.exact eM.refl _
 .exact zg _ _
def vO(i:Nat):eM st.s (bG c st i).s:=by unfold bG;split<;>exact eM.refl _
def rL(i:Nat):eM st.s (aA st i).s:=by unfold aA;split<;>exact eM.refl _
def yJ(h:CoB c B st)(I:1<=B)(H:B<=10000000000000)(i:Nat)(hs:(c.slot i:Int)+1<=B)(O:(c.node i:Int)+1<=B)(hm:1<=c.m/\c.m<=B):CoB c (B+2) (ak c st i):=by
 unfold ak;split;.exact h.mono ahy
 .exact DA h I H i hs O hm _ (h.tsp ahy i)
def AI(h:CoB c B st)(I:1<=B)(i:Nat):CoB c (B+2) (bG c st i):=by
 unfold bG;split;.have H:=h.mono (C:=B+2) ahy;exact⟨H.w,H.g,H.setL _ _ (uP (H.lsp ahy _ _) ahy),eA H.t i (H.tsp ahy i)⟩
 .exact h.mono ahy
def uZ(h:CoB c B st)(I:1<=B)(i:Nat):CoB c (B+2) (aA st i):=by
 unfold aA;split;.have H:=h.mono (C:=B+2) ahy;exact⟨H.w,H.g,H.l,eA H.t i (H.tsp ahy i)⟩
 .exact h.mono ahy
end
end
section
open Go
section
variable{σ σ':Nat->Sp}
def gD(t:Int)(n:Nat)(f:Int->Int)(σ:Nat->Sp):Prop:=∀i,i<n->(σ i).pc=10\/(σ i).pc=11->f t=(i:Int)+1
def gD.one(h:gD t n f σ){i:Nat}(hi:i<n)(I:j<n)(h1:(σ i).pc=10)(H:(σ j).pc=10):i=j:=by have O:=h i hi (.inl h1);have V:=h j I (.inl H);omega
def gD.off(h:gD t n f σ){i:Nat}{p:Sp}(hs:∀j,σ' j=if j=i then p else σ j)(I:(p.pc=10\/p.pc=11)->(σ i).pc=10\/(σ i).pc=11):gD t n f σ':=by
 intro j H hc;rw[hs]at hc;split at hc;.rename_i e;subst e;exact h j H (I hc)
 .exact h j H hc
def gD.get(h:gD t n f σ){i:Nat}{p:Sp}(hs:∀j,σ' j=if j=i then p else σ j)(H:∀y,f' y=if y=t then(i:Int)+1 else f y)(O:f t=0):gD t n f' σ':=by
 intro j I hc;rw[hs]at hc;rw[H,if_pos rfl];split at hc;.rename_i e;subst e;rfl
 .have:=h j I hc;omega
def gD.put(h:gD t n f σ){i:Nat}{p:Sp}(hi:i<n)(hs:∀j,σ' j=if j=i then p else σ j)(Y:∀y,f' y=if y=t then 0 else f y)(H:(σ i).pc=11)(hp:p.pc=0):gD t n f' σ':=by
 intro j I hc;rw[hs]at hc;split at hc;.omega
 .rename_i e;have O:=h j I hc;have V:=h i hi (.inr H);omega
structure dI(t:Int)(n:Nat)(f:Int->Int)(σ:Nat->Sp):Prop where
 le:f (t+1)<=f t
 w:∀i,i<n->(σ i).pc=2->f (t+1)<=(σ i).a/\(σ i).a<f t
 hd:∀i,i<n->(σ i).pc=10\/(σ i).pc=11->(σ i).a=f (t+1)/\(σ i).a<f t
 ne:∀i j,i<n->j<n->i≠j->((σ i).pc=2\/(σ i).pc=10\/(σ i).pc=11)->((σ j).pc=2\/(σ j).pc=10\/(σ j).pc=11)->(σ i).a≠(σ j).a
def dI.one(h:dI t n f σ){i:Nat}(hi:i<n)(hj:j<n)(h1:(σ i).pc=10)(h2:(σ j).pc=10):i=j:=by exact aaO
def dI.off(h:dI t n f σ){i:Nat}{p:Sp}(hs:∀j,σ' j=if j=i then p else σ j)(ha:p.a=(σ i).a)(H:((σ i).pc=0/\p.pc=1)\/((σ i).pc=10/\p.pc=11)\/p.pc=(σ i).pc):dI t n f σ':=by
 refine aj9 ?_;intro key
 have kc:∀j,((σ' j).pc=2->(σ j).pc=2)/\(((σ' j).pc=10\/(σ' j).pc=11)->(σ j).pc=10\/(σ j).pc=11):=λj=>by
  rw[hs];split;.rename_i e;subst e;omega
  .exact⟨id,id⟩
 refine⟨h.le,λj hj hc=>?_,λj hj hc=>?_,λj k hj hk hn h1 h2=>?_⟩;.rw[key];exact h.w j hj ((kc j).1 hc)
 .rw[key];exact h.hd j hj ((kc j).2 hc)
 .exact aaP
def dI.take(h:dI t n f σ){i:Nat}{p:Sp}(hs:∀j,σ' j=if j=i then p else σ j)(O:p.pc=2)(ha:p.a=f t)(H:∀y,f' y=if y=t then f t+1 else f y):dI t n f' σ':=by
 have f0:f' t=f t+1:=by rw[H,if_pos rfl]
 have f1:f' (t+1)=f (t+1):=by rw[H,if_neg ahy]
 have I:=h.le;refine⟨by rw[f0,f1];omega,λj hj hc=>?_,λj hj hc=>?_,λj k hj hk hn h1 h2=>?_⟩;.rw[f0,f1];exact aaQ
 .rw[f0,f1];exact aaR
 .exact aaS
def dI.enter(h:dI t n f σ){i:Nat}{p:Sp}(hi:i<n)(hs:∀j,σ' j=if j=i then p else σ j)(h2:(σ i).pc=2)(I:p.pc=10)(ha:p.a=(σ i).a)(H:f (t+1)=(σ i).a):dI t n f σ':=by
 have hw:=h.w i hi h2;refine aj9 ?_;intro key;refine⟨h.le,λj hj hc=>?_,λj hj hc=>?_,λj k hj hk hn h1 h3=>?_⟩
 .rw[key];rw[hs]at hc;split at hc;.omega
  .exact h.w j hj hc
 .exact aaT
 .exact aaU
def dI.put(h:dI t n f σ){i:Nat}{p:Sp}(hi:i<n)(hs:∀j,σ' j=if j=i then p else σ j)(h1:(σ i).pc=11)(O:p.pc=0)(H:∀y,f' y=if y=t+1 then(σ i).a+1 else f y):dI t n f' σ':=by
 have I:=h.hd i hi (.inr h1);have f0:f' t=f t:=by rw[H,if_neg ahy]
 have f1:f' (t+1)=(σ i).a+1:=by rw[H,if_pos rfl]
 refine⟨by rw[f0,f1];omega,λj hj hc=>?_,λj hj hc=>?_,λj k hj hk hn h2 h3=>?_⟩;.rw[f0,f1];exact aaV
 .exact aaW
 .exact aaX
structure dZ(t m:Int)(n:Nat)(f:Int->Int)(σ:Nat->Sp)(v:Int):Prop where
 v0:0<=v
 le:v<=f t
 w:∀i,i<n->(σ i).pc=2->v<=(σ i).a/\(σ i).a<f t
 hd:∀i,i<n->(σ i).pc=10\/(σ i).pc=11->(σ i).a=v/\(σ i).a<f t
 ne:∀i j,i<n->j<n->i≠j->((σ i).pc=2\/(σ i).pc=10\/(σ i).pc=11)->((σ j).pc=2\/(σ j).pc=10\/(σ j).pc=11)->(σ i).a≠(σ j).a
 pl:∀k:Int,0<=k->k<m->f (t+1+k)<=v+1
 sv:f (pPl t m v)=v+1
def dZ.one{v:Int}(h:dZ t m n f σ v){i:Nat}(hi:i<n)(hj:j<n)(h1:(σ i).pc=10)(h2:(σ j).pc=10):i=j:=by exact aaO
def dZ.off{v:Int}(h:dZ t m n f σ v){i:Nat}{p:Sp}(hs:∀j,σ' j=if j=i then p else σ j)(ha:p.a=(σ i).a)(H:((σ i).pc=0/\p.pc=1)\/((σ i).pc=10/\p.pc=11)\/p.pc=(σ i).pc):dZ t m n f σ' v:=by
 refine aj9 ?_;intro key
 have kc:∀j,((σ' j).pc=2->(σ j).pc=2)/\(((σ' j).pc=10\/(σ' j).pc=11)->(σ j).pc=10\/(σ j).pc=11):=λj=>by
  rw[hs];split;.rename_i e;subst e;omega
  .exact⟨id,id⟩
 refine⟨h.v0,h.le,λj hj hc=>?_,λj hj hc=>?_,λj k hj hk hn h1 h2=>?_,h.pl,h.sv⟩;.rw[key];exact h.w j hj ((kc j).1 hc)
 .rw[key];exact h.hd j hj ((kc j).2 hc)
 .exact aaP
def dZ.take{v:Int}(h:dZ t m n f σ v)(hm:1<=m){i:Nat}{p:Sp}(hs:∀j,σ' j=if j=i then p else σ j)(O:p.pc=2)(ha:p.a=f t)(H:∀y,f' y=if y=t then f t+1 else f y):dZ t m n f' σ' v:=by
 have f0:f' t=f t+1:=by rw[H,if_pos rfl]
 have I:=h.le;have hm0:=Int.emod_nonneg v (show m≠0 by omega);refine⟨h.v0,by rw[f0];omega,λj hj hc=>?_,λj hj hc=>?_,λj k hj hk hn h1 h2=>?_,λk k0 k1=>by rw[H,if_neg ahy];exact h.pl k k0 k1,by rw[H,if_neg (by unfold pPl;omega)];exact h.sv⟩;.rw[f0];exact aaQ
 .rw[f0];exact aaR
 .exact aaS
def dZ.enter{v:Int}(h:dZ t m n f σ v)(hm:1<=m){i:Nat}{p:Sp}(hi:i<n)(hs:∀j,σ' j=if j=i then p else σ j)(h2:(σ i).pc=2)(O:p.pc=10)(ha:p.a=(σ i).a)(H:f (pPl t m (σ i).a)=(σ i).a+1):dZ t m n f σ' v:=by
 have hw:=h.w i hi h2;have V:=h.pl ((σ i).a%m) (Int.emod_nonneg _ ahy) (Int.emod_lt_of_pos _ ahy);have I:f (t+1+(σ i).a%m)=(σ i).a+1:=H;refine aj9 ?_;intro key;refine⟨h.v0,h.le,λj hj hc=>?_,λj hj hc=>?_,λj k hj hk hn h1 h3=>?_,h.pl,h.sv⟩
 .rw[key];rw[hs]at hc;split at hc;.omega
  .exact h.w j hj hc
 .exact aaT
 .exact aaU
def dZ.put{v:Int}(h:dZ t m n f σ v)(hm:1<=m){i:Nat}{p:Sp}(hi:i<n)(hs:∀j,σ' j=if j=i then p else σ j)(h1:(σ i).pc=11)(V:p.pc=0)(H:∀y,f' y=if y=pPl t m ((σ i).a+1)then(σ i).a+2 else f y):dZ t m n f' σ' (v+1):=by
 have I:=h.hd i hi (.inr h1);have hm0:=Int.emod_nonneg ((σ i).a+1) (show m≠0 by omega);have f0:f' t=f t:=by rw[H,if_neg (by unfold pPl;omega)]
 have O:=h.v0;refine⟨by omega,by rw[f0];omega,λj hj hc=>?_,λj hj hc=>?_,λj k hj hk hn h2 h3=>?_,λk k0 k1=>?_,?_⟩;.rw[f0];exact aaV
 .exact aaW
 .exact aaX
 .rw[H];split;.omega
  .have:=h.pl k k0 k1;omega
 .rw[H,if_pos (by rw[I.1]),I.1];omega
end
end
section
open Go
def szI(k n:Nat)(m:Int):Int:=if k=1 then 1 else if k=2 then 2 else if k=3 then 1+m else if k=4 then 1+2*(n:Int)else(n:Int)+2
def so(k:Nat)(t m:Int)(n:Nat)(f:Int->Int)(σ:Nat->Sp):Prop:=
 if k=1 then gD t n f σ else if k=2 then dI t n f σ else if k=3 then ∃v,dZ t m n f σ v else if k=4 then McA n (f t) (fN t n f) (fW t n f) σ else ∃e,ClA n (f t) (fC t n f) σ e
structure cB(k:Nat)(t m:Int)(n:Nat)(W:List Int)(S:List Sp):Prop where
 len:S.length=n
 m1:1<=m
 t1:1<=t
 t2:t+szI k n m<=(W.length:Int)+1
 i:so k t m n (ldW W) (sv S)
section
variable{k:Nat}{σ:Nat->Sp}
def xO(t:Int)(hm:1<=m)(v:Int):t<pPl t m v/\pPl t m v<t+1+m:=by have h1:=Int.emod_nonneg v (show m≠0 by omega);have h:=Int.emod_lt_of_pos v (show 0<m by omega);unfold pPl;omega
def so.congr(h:so k t m n f σ)(hm:1<=m)(H:∀y,t<=y->y<t+szI k n m->f' y=f y):so k t m n f' σ:=by
 unfold so at h ⊢;unfold szI at H;by_cases h1:k=1;.simp only[h1,reduceIte]at h H ⊢;intro i hi hc;rw[H t ahy ahy];exact h i hi hc
 by_cases O:k=2;.simp only[O,reduceIte,show ¬(2=1)by decide]at h H ⊢;have e0:=H t ahy ahy;have I:=H (t+1) ahy ahy;exact⟨by rw[e0,I];exact h.le,λi hi hc=>by rw[e0,I];exact h.w i hi hc,λi hi hc=>by rw[e0,I];exact h.hd i hi hc,h.ne⟩
 by_cases V:k=3;.simp only[V,reduceIte,show ¬(3=1)by decide,show ¬(3=2)by decide]at h H ⊢;obtain⟨v,h⟩:=h;have e0:=H t ahy ahy;have ep:=xO t hm v;exact⟨v,h.v0,by rw[e0];exact h.le,λi hi hc=>by rw[e0];exact h.w i hi hc,λi hi hc=>by rw[e0];exact h.hd i hi hc,h.ne,λk k0 k1=>by rw[H _ ahy ahy];exact h.pl k k0 k1,by rw[H _ ahy ahy];exact h.sv⟩
 by_cases Y:k=4;.simp only[Y,reduceIte,show ¬(4=1)by decide,show ¬(4=2)by decide,show ¬(4=3)by decide]at h H ⊢;have e:=Bm H;rw[H t ahy ahy,e.1,e.2];exact h
 .simp only[h1,O,V,Y,reduceIte]at h H ⊢;obtain⟨e,h⟩:=h;exact⟨e,by rw[H t ahy ahy,Bl H];exact h⟩
def cB.frame{H:List Int}{S:List Sp}(h:cB k t m n W S)(O:H.length=W.length)(I:∀y,t<=y->y<t+szI k n m->ldW H y=ldW W y):cB k t m n H S:=
 ⟨h.len,h.m1,h.t1,by rw[O];exact h.t2,h.i.congr h.m1 I⟩
def cB.one{S:List Sp}(h:cB k t m n W S)(Y:1<=k/\k<=5){i:Nat}(hi:i<n)(H:j<n)(h1:(sv S i).pc=10)(I:(sv S j).pc=10):i=j:=by
 have V:k=1\/k=2\/k=3\/k=4\/k=5:=by omega
 rcases V with rfl|rfl|rfl|rfl|rfl
 .exact gD.one (show gD t n (ldW W) (sv S)from h.i) hi H h1 I
 .exact dI.one (show dI t n (ldW W) (sv S)from h.i) hi H h1 I
 .obtain⟨v,O⟩:∃v,dZ t m n (ldW W) (sv S) v:=h.i;exact O.one hi H h1 I
 .exact(show McA n _ _ _ (sv S)from h.i).tk.one i j hi H (.inl ahy) (.inl ahy)
 .obtain⟨e,O⟩:∃e,ClA n (ldW W t) (fC t n (ldW W)) (sv S) e:=h.i;exact O.one hi H h1 I
def svS{S:List Sp}{i:Nat}(hi:i<S.length)(p:Sp)(j:Nat):sv (S.set i p) j=if j=i then p else sv S j:=by
 rw[bh];by_cases e:i=j;.subst e;rw[if_pos ⟨rfl,hi⟩,if_pos rfl]
 .rw[if_neg (λh=>e h.1),if_neg (λh=>e h.symm)]
def Fl{S:List Sp}(h:cB k t m n W S){i:Nat}(hi:i<n):sv (S.set i (sv S i))=sv S:=by
 funext j;rw[svS (by rw[h.len];exact hi)];split;.rename_i e3;rw[e3]
 .rfl
def cB.ask{S:List Sp}(h:cB k t m n W S)(Y:1<=k/\k<=5){i:Nat}(hi:i<n):cB k t m n W (S.set i (askK k (sv S i))):=by
 refine⟨by rw[List.length_set];exact h.len,h.m1,h.t1,h.t2,?_⟩;by_cases O:(sv S i).pc=0
 .have hs:=svS (S:=S) (i:=i) (by rw[h.len];exact hi) (askK k (sv S i));have H:askK k (sv S i)=if k=1 then {(sv S i)with pc:=1,a:=1} else {(sv S i)with pc:=1}:=by unfold askK;rw[if_pos O]
  have V:k=1\/k=2\/k=3\/k=4\/k=5:=by omega
  rcases V with rfl|rfl|rfl|rfl|rfl
  .have I:gD t n (ldW W) (sv S):=h.i;exact gD.off I hs (by rw[H];simp)
  .have I:dI t n (ldW W) (sv S):=h.i;exact dI.off I hs (by rw[H];rfl) (.inl ⟨O,by rw[H];rfl⟩)
  .obtain⟨v,I⟩:∃v,dZ t m n (ldW W) (sv S) v:=h.i;exact⟨v,I.off hs (by rw[H];rfl) (.inl ⟨O,by rw[H];rfl⟩)⟩
  .exact McA.beg (show McA n _ _ _ (sv S)from h.i) hi hs (.inr ⟨O,by rw[H];rfl⟩)
  .obtain⟨e,I⟩:∃e,ClA n (ldW W t) (fC t n (ldW W)) (sv S) e:=h.i;exact⟨e,I.put hi hs (by rw[H];rfl) (λ_ _=>rfl) (λhc=>by rw[H]at hc;simp at hc) (.inl ⟨by omega,by rw[H];show(1:Int)<3;decide⟩)⟩
 .have e:askK k (sv S i)=sv S i:=by unfold askK;rw[if_neg O]
  rw[e,Fl h hi];exact h.i
def cB.leave{S:List Sp}(h:cB k t m n W S)(Y:1<=k/\k<=5){i:Nat}(hi:i<n):cB k t m n W (S.set i (bf (sv S i))):=by
 refine⟨by rw[List.length_set];exact h.len,h.m1,h.t1,h.t2,?_⟩;by_cases O:(sv S i).pc=10
 .have hs:=svS (S:=S) (i:=i) (by rw[h.len];exact hi) (bf (sv S i));have I:bf (sv S i)={(sv S i)with pc:=11}:=by unfold bf;rw[if_pos O]
  have V:k=1\/k=2\/k=3\/k=4\/k=5:=by omega
  rcases V with rfl|rfl|rfl|rfl|rfl
  .have H:gD t n (ldW W) (sv S):=h.i;exact gD.off H hs (by rw[I];intro _;exact .inl O)
  .have H:dI t n (ldW W) (sv S):=h.i;exact dI.off H hs (by rw[I]) (.inr (.inl ⟨O,by rw[I]⟩))
  .obtain⟨v,H⟩:∃v,dZ t m n (ldW W) (sv S) v:=h.i;exact⟨v,H.off hs (by rw[I]) (.inr (.inl ⟨O,by rw[I]⟩))⟩
  .exact McA.beg (show McA n _ _ _ (sv S)from h.i) hi hs (.inl ⟨O,by rw[I]⟩)
  .obtain⟨e,H⟩:∃e,ClA n (ldW W t) (fC t n (ldW W)) (sv S) e:=h.i;exact⟨e,H.put hi hs (by rw[I]) (λ_ _=>rfl) (λ_=>H.f1 i hi ahy) (.inr ⟨by omega,by rw[I];show(3:Int)<=11;decide,by rw[I],λ_=>H.h10 i hi ahy⟩)⟩
 .have e:bf (sv S i)=sv S i:=by unfold bf;rw[if_neg O]
  rw[e,Fl h hi];exact h.i
def qf(k:Nat)(t m:Int)(n:Nat)(W W':List Int)(S:List Sp)(i:Nat)(p:Sp):Prop:=so k t m n (ldW W') (sv (S.set i p))/\∀y,¬(t<=y/\y<t+szI k n m)->ldW W' y=ldW W y
def BL{S:List Sp}(h:cB k t m n W S)(h1:t<=x)(H:x<t+szI k n m):inR W x=true:=aT.2 (by have:=h.t1;have:=h.t2;omega)
def iE{S:List Sp}(h:cB k t m n W S)(h1:t<=x)(H:x<t+szI k n m)(v:Int):(∀y,ldW (stW W x v) y=if y=x then v else ldW W y)/\∀y,¬(t<=y/\y<t+szI k n m)->ldW (stW W x v) y=ldW W y:=by have e:=λy=>gz (BL h h1 H) v y;exact⟨e,λy I=>by rw[e,if_neg (by rintro rfl;exact I ⟨h1,H⟩)]⟩
end
section
variable{s:Ar}{S:List Sp}
def km{i:Nat}(hi:i<S.length){k:Nat}(h:so k t m n f (sv S)):so k t m n f (sv (S.set i (sv S i))):=by
 have H:sv (S.set i (sv S i))=sv S:=by
  funext j;rw[svS hi];split;.rename_i e3;rw[e3]
  .rfl
 rw[H];exact h
def Ic(h:cB 1 t m n s.W S){i:Nat}(hi:i<n):qf 1 t m n s.W (wQ t m s i (sv S i)).1.W S i (wQ t m s i (sv S i)).2:=by
 have hl:i<S.length:=by rw[h.len];exact hi
 have V:gD t n (ldW s.W) (sv S):=h.i;have Y:t<t+szI 1 n m:=by unfold szI;rw[if_pos rfl];omega
 have O:=BL h (Int.le_refl t) Y;unfold wQ;split
 .rename_i I';have hw:=iE h (Int.le_refl t) Y ((i:Int)+1);have H:=gX s t 0 ((i:Int)+1);by_cases h0:ldW s.W t=0;.have I:cK s t 0=true:=(by unfold cK;rw[O,h0];rfl);rw[I]at H ⊢;rw[if_pos rfl]at H ⊢;refine⟨?_,by show ∀y,_->ldW (dY _ _ _ _).W y=_;rw[H];exact hw.2⟩;show gD t n (ldW (dY s t 0 ((i:Int)+1)).W) _;rw[H];exact V.get (svS hl _) hw.1 h0
  .have I:cK s t 0=false:=(by unfold cK;rw[O];simp[h0]);rw[I]at H ⊢;rw[if_neg ahA]at H ⊢;refine⟨?_,by show ∀y,_->ldW (dY _ _ _ _).W y=_;rw[H];exact λ_ _=>rfl⟩;show gD t n (ldW (dY s t 0 ((i:Int)+1)).W) _;rw[H];exact V.off (svS hl _) ahz
 split;.refine⟨?_,λ_ _=>rfl⟩;exact gD.off V (svS hl _) (by simp only;split<;>simp)
 split;.rename_i OG;have hw:=iE h (Int.le_refl t) Y 0;refine⟨?_,by show ∀y,_->ldW (ae _ _ _).W y=_;rw[ay];exact hw.2⟩;show gD t n (ldW (ae s t 0).W) _;rw[ay];exact V.put hi (svS hl _) hw.1 OG rfl
 .exact aa1
def F3(h:cB 2 t m n s.W S)(hW:WdB B s)(Y:0<=B)(Le:B<=10000000000000){i:Nat}(hi:i<n):qf 2 t m n s.W (pO t s (sv S i)).1.W S i (pO t s (sv S i)).2:=by
 have hl:i<S.length:=by rw[h.len];exact hi
 have H:dI t n (ldW s.W) (sv S):=h.i;have hz:szI 2 n m=2:=rfl;unfold pO;split;.have hw:=iE h (Int.le_refl t) ahT (ldW s.W t+1);have Pk:=hW.ld Y t;refine⟨?_,by show ∀y,_->ldW (addA _ _ _).W y=_;rw[d7,IntWalk.i64_in _ ahy];exact hw.2⟩;show dI t n (ldW (addA s t 1).W) _;rw[d7,IntWalk.i64_in _ ahy];exact H.take (svS hl _) rfl rfl hw.1
 split
 .rename_i O;refine⟨?_,by show ∀y,_->ldW (af _ _).W y=_;rw[aQ];exact λ_ _=>rfl⟩;show dI t n (ldW (af s (t+1)).W) _;rw[aQ];by_cases I:ldW s.W (t+1)=(sv S i).a;.exact H.enter hi (svS hl _) O (by simp[I]) rfl I
  .exact H.off (svS hl _) rfl (.inr (.inr (by simp[I,O])))
 split;.rename_i V;have hw:=iE h (show t<=t+1 by omega) ahT ((sv S i).a+1);refine⟨?_,by show ∀y,_->ldW (ae _ _ _).W y=_;rw[ay];exact hw.2⟩;show dI t n (ldW (ae s (t+1) _).W) _;rw[ay];exact H.put hi (svS hl _) V rfl hw.1
 .exact aa1
def F2(h:cB 3 t m n s.W S)(hW:WdB B s)(Y:0<=B)(Le:B<=10000000000000){i:Nat}(hi:i<n):qf 3 t m n s.W (pv t m s (sv S i)).1.W S i (pv t m s (sv S i)).2:=by
 have hl:i<S.length:=by rw[h.len];exact hi
 obtain⟨v,H⟩:∃v,dZ t m n (ldW s.W) (sv S) v:=h.i;have hm:=h.m1;have hz:szI 3 n m=1+m:=rfl;unfold pv;split;.have hw:=iE h (Int.le_refl t) ahT (ldW s.W t+1);have Pk:=hW.ld Y t;refine⟨?_,by show ∀y,_->ldW (addA _ _ _).W y=_;rw[d7,IntWalk.i64_in _ ahy];exact hw.2⟩;show ∃v,dZ t m n (ldW (addA s t 1).W) _ v;rw[d7,IntWalk.i64_in _ ahy];exact⟨v,H.take hm (svS hl _) rfl rfl hw.1⟩
 split
 .rename_i O;refine⟨?_,by show ∀y,_->ldW (af _ _).W y=_;rw[aQ];exact λ_ _=>rfl⟩;show ∃v,dZ t m n (ldW (af s _).W) _ v;rw[aQ];by_cases I:ldW s.W (pPl t m (sv S i).a)=(sv S i).a+1;.exact⟨v,H.enter hm hi (svS hl _) O (by simp[I]) rfl I⟩
  .exact⟨v,H.off (svS hl _) rfl (.inr (.inr (by simp[I,O])))⟩
 split;.rename_i V;have hp:=xO t hm ((sv S i).a+1);have hw:=iE h (show t<=pPl t m ((sv S i).a+1)by omega) ahT ((sv S i).a+2);refine⟨?_,by show ∀y,_->ldW (ae _ _ _).W y=_;rw[ay];exact hw.2⟩;show ∃v,dZ t m n (ldW (ae s _ _).W) _ v;rw[ay];exact⟨v+1,H.put hm hi (svS hl _) V rfl hw.1⟩
 .exact aa1
def Hw(h:cB 5 t m n s.W S){i:Nat}(hi:i<n):qf 5 t m n s.W (uY t s (sv S i)).1.W S i (uY t s (sv S i)).2:=by
 have hl:i<S.length:=by rw[h.len];exact hi
 obtain⟨e,H⟩:∃e,ClA n (ldW s.W t) (fC t n (ldW s.W)) (sv S) e:=h.i;have hz:szI 5 n m=(n:Int)+2:=rfl;have ha:=H.a0 i hi;unfold uY;split;.rename_i h1;have hw:=iE h (show t<=t+(sv S i).a by omega) ahT 1;have O:=Fa hw.1 ha;refine⟨?_,by show ∀y,_->ldW (ae _ _ _).W y=_;rw[ay];exact hw.2⟩;show ∃e,ClA n (ldW (ae s _ _).W t) (fC t n (ldW (ae s _ _).W)) _ e;rw[ay,O.1,O.2];exact⟨e,H.put hi (svS hl _) rfl (λy hy=>eF _ hy) (λ_=>gR _ _ _) (.inl ⟨by omega,by show(2:Int)<3;decide⟩)⟩
 split;.rename_i h2;have hw:=iE h (Int.le_refl t) ahT (sv S i).a;have O:=F0 (n:=n) hw.1;refine⟨?_,by show ∀y,_->ldW (cz _ _ _).W y=_;rw[dQ];exact hw.2⟩;show ∃e,ClA n (ldW (cz s _ _).W t) (fC t n (ldW (cz s _ _).W)) _ e;rw[dQ,O.1,O.2];exact⟨e,H.swap hi (svS hl _) h2 rfl rfl rfl⟩
 split
 .rename_i Y;refine⟨?_,by show ∀y,_->ldW (af _ _).W y=_;rw[aQ];exact λ_ _=>rfl⟩;show ∃e,ClA n (ldW (af s _).W t) (fC t n (ldW (af s _).W)) _ e;rw[aQ];have hq:=H.bq i hi ahy;have I:1<=(sv S i).b/\(sv S i).b<=(n:Int)+1:=hq.elim (λh=>by rw[h];exact H.e0) fun⟨j,hj,h,_⟩=>by rw[h];exact H.a0 j hj
  have hC:fC t n (ldW s.W) (sv S i).b=ldW s.W (t+(sv S i).b):=if_pos I;by_cases V:ldW s.W (t+(sv S i).b)=0;.exact⟨e,H.put hi (svS hl _) rfl (λ_ _=>rfl) (λ_=>H.f1 i hi ahy) (.inr ⟨by omega,by simp[V],rfl,λ_=>hq.elim id fun⟨j,hj,h,Y⟩=>absurd (H.f1 j hj ahy) (by rw[<-h,hC,V];decide)⟩)⟩
  .have:({(sv S i)with pc:=if ldW s.W (t+(sv S i).b)=0 then 10 else 3}:Sp)=sv S i:=(by rw[if_neg V,<-Y]);rw[this];exact km (k:=5) (m:=m) hl h.i
 split;.rename_i OG;have hw:=iE h (show t<=t+(sv S i).a by omega) ahT 0;have O:=Fa hw.1 ha;refine⟨?_,by show ∀y,_->ldW (ae _ _ _).W y=_;rw[ay];exact hw.2⟩;show ∃e,ClA n (ldW (ae s _ _).W t) (fC t n (ldW (ae s _ _).W)) _ e;rw[ay,O.1,O.2];exact⟨_,H.o hi (svS hl {(sv S i)with a:=(sv S i).b,pc:=0}) ahy rfl rfl rfl⟩
 .exact aa1
def Ib(h:cB 4 t m n s.W S){i:Nat}(hi:i<n)(hc:iX (sv S i)):qf 4 t m n s.W (mK t s i (sv S i)).1.W S i (mK t s i (sv S i)).2:=by have hz:szI 4 n m=1+2*(n:Int):=rfl;obtain⟨H,I⟩:=McA.go (show McA n _ _ _ _ from h.i) hi h.len (λx v h1 V=>(iE h h1 ahT v).1) (BL h (Int.le_refl t) ahT) rfl hc rfl;exact⟨H,λy O=>I y (by rw[hz]at O;omega)⟩
def cB.step{k:Nat}(h:cB k t m n s.W S)(hk:1<=k/\k<=5)(O:WdB B s)(I:0<=B)(H:B<=10000000000000){i:Nat}(hi:i<n)(hc:pcK k (sv S i)):cB k t m n (bS k t m s i (sv S i)).1.W (S.set i (bS k t m s i (sv S i)).2)/\∀y,¬(t<=y/\y<t+szI k n m)->ldW (bS k t m s i (sv S i)).1.W y=ldW s.W y:=by
  have Y:=(dc k t m s i (sv S i)).2
  have key:qf k t m n s.W (bS k t m s i (sv S i)).1.W S i (bS k t m s i (sv S i)).2:=by
    have V:k=1\/k=2\/k=3\/k=4\/k=5:=(by omega);rcases V with rfl|rfl|rfl|rfl|rfl
    . exact Ic h hi
    . exact F3 h O I H hi
    . exact F2 h O I H hi
    . exact Ib h hi hc
    . exact Hw h hi
  exact⟨⟨by rw[List.length_set];exact h.len,h.m1,h.t1,by rw[Y];exact h.t2,key.1⟩,key.2⟩
end
end
section
open Go
variable{p g p':Sp}{W':List Int}
def cX(p:Sp):Prop:=p.pc=3\/p.pc=4\/(10<=p.pc/\p.pc<=15)
def StP(p g:Sp)(v:Int):Prop:=
 (p.pc=3->(0<g.pc/\g.pc<10)/\¬0<v)/\(p.pc=4->g.pc=10/\¬0<v)/\(10<=p.pc/\p.pc<=14->g.pc=10)/\(p.pc=13->1<=p.a)/\(p.pc=15->10<g.pc/\¬0<v)
def FrP(g:Sp)(v:Int):Prop:=g.pc=if 0<v then 10 else 0
structure cO(c:CoC)(n N:Nat)(ml:Nat->Nat):Prop where
 k:(1<=c.kg/\c.kg<=5)/\1<=c.kl/\c.kl<=5
 inj:Inj c n
 nd:∀i,i<n->c.node i<N/\c.slot i<ml (c.node i)
 cw:∀a,a<N->c.cw a=c.tl a+szI c.kl (ml a) c.m
 gl:∀a,a<N->c.tg+szI c.kg N c.m<=c.tl a
 sz:∀a,a<N->0<=szI c.kl (ml a) c.m
 ap:∀a b,a<N->b<N->a≠b->c.cw a<c.tl b\/c.cw b<c.tl a
structure CoM(c:CoC)(n N:Nat)(ml:Nat->Nat)(st:Co):Prop where
 fG:cB c.kg c.tg c.m N st.s.W st.G
 fL:∀a,a<N->cB c.kl (c.tl a) c.m (ml a) st.s.W (st.L.getD a [])
 lL:st.L.length=N
 lW:∀a,a<N->1<=c.cw a/\c.cw a<=st.s.W.length
 v:CoV c n st
 sj:∀j,j<n->StP (sv st.T j) (sv st.G (c.node j)) (ldW st.s.W (c.cw (c.node j)))
 fr:∀a,a<N->(∀j,j<n->c.node j=a->¬cX (sv st.T j))->FrP (sv st.G a) (ldW st.s.W (c.cw a))
section
variable{c:CoC}{N:Nat}{ml:Nat->Nat}{st st':Co}
def j9{v:Int}(h:¬cX p):StP p g v:=by unfold cX at h;refine⟨?_,?_,?_,?_,?_⟩<;>intro hc<;>omega
def CoM.uniq(h:CoM c n N ml st)(y:cO c n N ml){i:Nat}(hi:i<n)(H:j<n)(I:c.node i=c.node j)(h1:(lsp st.L (c.node i) (c.slot i)).pc=10)(O:cX (sv st.T j)):i=j:=by
 have hk:=h.v.k j H;have V:(lsp st.L (c.node j) (c.slot j)).pc=10:=by unfold dt at hk;unfold cX at O;omega
 have Y:=(y.nd i hi).1;have e:=(h.fL _ Y).one y.k.2 (i:=c.slot i) (j:=c.slot j) (y.nd i hi).2 (by rw[I];exact(y.nd j H).2) h1 (by rw[I];exact V);exact y.inj i j hi H I e
def CoM.one(h:CoM c n N ml st)(y:cO c n N ml){i:Nat}(hi:i<n)(H:j<n)(h1:10<=(sv st.T i).pc/\(sv st.T i).pc<=14)(V:10<=(sv st.T j).pc/\(sv st.T j).pc<=14):i=j:=by have I:=(h.sj i hi).2.2.1 h1;have O:=(h.sj j H).2.2.1 V;have hn:=h.fG.one y.k.1 (y.nd i hi).1 (y.nd j H).1 I O;have Y:=h.v.k i hi;exact h.uniq y hi H hn (by unfold dt at Y;omega) (by unfold cX;omega)
def CoM.updA(h:CoM c n N ml st){i:Nat}(hi:i<n)(I:¬cX (sv st.T i))(V:¬cX p')(hT:st'.T=st.T.set i p')(Y:st'.G=st.G)(hc:∀a,a<N->ldW st'.s.W (c.cw a)=ldW st.s.W (c.cw a))(hN:∀j,j<n->c.node j<N)(hl:st'.s.W.length=st.s.W.length)(fG:cB c.kg c.tg c.m N st'.s.W st'.G)(fL:∀a,a<N->cB c.kl (c.tl a) c.m (ml a) st'.s.W (st'.L.getD a []))(lL:st'.L.length=N)(v:CoV c n st'):CoM c n N ml st':=by
  have Om:i<st.T.length:=by have:=h.v.lT;omega
  have hs:=svS Om p';refine⟨fG,fL,lL,λa H=>by rw[hl];exact h.lW a H,v,λj O=>?_,λa H hf=>?_⟩
  . rw[hT,hs,Y,hc _ (hN j O)];split;. exact j9 V
    . exact h.sj j O
  . rw[Y,hc a H];refine h.fr a H (λj O Ru=>?_);have:=hf j O Ru;rw[hT,hs]at this;split at this;. rename_i e;rw[e];exact I
    . exact this
def CoM.updB(h:CoM c n N ml st)(y:cO c n N ml){i:Nat}(hi:i<n)(h10:(lsp st.L (c.node i) (c.slot i)).pc=10)(Y:st'.T=st.T.set i p')(hG:∀a,a≠c.node i->sv st'.G a=sv st.G a)(hc:∀a,a<N->a≠c.node i->ldW st'.s.W (c.cw a)=ldW st.s.W (c.cw a))(hS:StP p' (sv st'.G (c.node i)) (ldW st'.s.W (c.cw (c.node i))))(hF:¬cX p'->FrP (sv st'.G (c.node i)) (ldW st'.s.W (c.cw (c.node i))))(hl:st'.s.W.length=st.s.W.length)(fG:cB c.kg c.tg c.m N st'.s.W st'.G)(fL:∀a,a<N->cB c.kl (c.tl a) c.m (ml a) st'.s.W (st'.L.getD a []))(lL:st'.L.length=N)(v:CoV c n st'):CoM c n N ml st':=by
  have Om:i<st.T.length:=by have:=h.v.lT;omega
  have hs:=svS Om p';refine⟨fG,fL,lL,λa O=>by rw[hl];exact h.lW a O,v,λj H=>?_,λa O hf=>?_⟩
  . rw[Y,hs];split;. rename_i e;rw[e];exact hS
    . rename_i e;by_cases hn:c.node i=c.node j;. exact j9 (λI=>e (h.uniq y hi H hn h10 I).symm)
      . rw[hG _ (λe=>hn e.symm),hc _ (y.nd j H).1 (λe=>hn e.symm)];exact h.sj j H
  . by_cases e:a=c.node i;. rw[e];refine hF ?_;have:=hf i hi e.symm;rw[Y,hs,if_pos rfl]at this;exact this
    . rw[hG a e,hc a O e];refine h.fr a O (λj H V=>?_);have:=hf j H V;rw[Y,hs]at this;split at this;. rename_i e2;rw[e2]at V;exact absurd V.symm e
      . exact this
def qy(L:List (List Sp))(a s:Nat)(p:Sp)(H:a<L.length)(b:Nat):(jU L a s p).getD b []=if b=a then(L.getD a []).set s p else L.getD b []:=by
 unfold jU;rw[List.getD_eq_getElem?_getD,List.getElem?_set];by_cases e:a=b;.subst e;rw[if_pos rfl,if_pos H,if_pos rfl];rfl
 .rw[if_neg e,if_neg (λh=>e h.symm),<-List.getD_eq_getElem?_getD]
def uv(c:CoC)(st:Co)(i:Nat)(p:Sp):(setL c st i p).length=st.L.length:=(pf _ _ _ _ 0).2
def CoM.frL(h:CoM c n N ml st)(y:cO c n N ml)(H:a<N)(V:W'.length=st.s.W.length)(O:∀x,¬(c.tl a<=x/\x<c.tl a+szI c.kl (ml a) c.m)->ldW W' x=ldW st.s.W x):cB c.kg c.tg c.m N W' st.G/\(∀b,b<N->b≠a->cB c.kl (c.tl b) c.m (ml b) W' (st.L.getD b []))/\∀b,b<N->ldW W' (c.cw b)=ldW st.s.W (c.cw b):=by
  have g1:=y.gl a H;have c1:=y.cw a H;refine⟨h.fG.frame V (λx h1 h2=>O x ahy),λb I hn=>(h.fL b I).frame V (λx h1 h2=>O x ?_),λb I=>O _ ?_⟩;. have:=y.ap a b H I (λe=>hn e.symm);have c2:=y.cw b I;omega
  . by_cases e:b=a;. subst e;omega
    . have:=y.ap a b H I (λY=>e Y.symm);have c2:=y.cw b I;have s2:=y.sz b I;omega
def CoM.frG(h:CoM c n N ml st)(y:cO c n N ml)(O:W'.length=st.s.W.length)(H:∀x,¬(c.tg<=x/\x<c.tg+szI c.kg N c.m)->ldW W' x=ldW st.s.W x):(∀b,b<N->cB c.kl (c.tl b) c.m (ml b) W' (st.L.getD b []))/\∀b,b<N->ldW W' (c.cw b)=ldW st.s.W (c.cw b):=by refine⟨λb I=>(h.fL b I).frame O (λx h1 V=>H x (by have:=y.gl b I;omega)),λb I=>H _ (by have:=y.gl b I;have:=y.cw b I;have:=y.sz b I;omega)⟩
def CoM.frC(h:CoM c n N ml st)(y:cO c n N ml)(H:a<N)(u:Int):cB c.kg c.tg c.m N (stW st.s.W (c.cw a) u) st.G/\(∀b,b<N->cB c.kl (c.tl b) c.m (ml b) (stW st.s.W (c.cw a) u) (st.L.getD b []))/\(∀b,b<N->b≠a->ldW (stW st.s.W (c.cw a) u) (c.cw b)=ldW st.s.W (c.cw b))/\ldW (stW st.s.W (c.cw a) u) (c.cw a)=u:=by
  have hw:=gz (aT.2 (h.lW a H)) u;have g1:=y.gl a H;have c1:=y.cw a H;have s1:=y.sz a H
  refine⟨h.fG.frame (bQ _ _ _) (λx h1 V=>by rw[hw,if_neg ahy]),λb I=>(h.fL b I).frame (bQ _ _ _) (λx h1 V=>by
    rw[hw,if_neg];by_cases e:b=a;. subst e;omega
    . have:=y.ap a b H I (λO=>e O.symm);have:=y.cw b I
      omega),λb I Y=>by
    rw[hw,if_neg];have:=y.ap a b H I (λO=>Y O.symm);have:=y.cw b I;have:=y.sz b I
    omega,by rw[hw,if_pos rfl]⟩
def FrP.of{v:Int}(h:FrP g v):(0<v->g.pc=10)/\(¬0<v->g.pc=0):=by unfold FrP at h;exact⟨λO=>by rw[h,if_pos O],λO=>by rw[h,if_neg O]⟩
def CoM.setLL(h:CoM c n N ml st){i:Nat}(H:c.node i<N)(fL:∀b,b<N->cB c.kl (c.tl b) c.m (ml b) W' (st.L.getD b []))(O:cB c.kl (c.tl (c.node i)) c.m (ml (c.node i)) W' ((st.L.getD (c.node i) []).set (c.slot i) p)):∀b,b<N->cB c.kl (c.tl b) c.m (ml b) W' ((setL c st i p).getD b []):=λb I=>by
  unfold setL
  rw[qy _ _ _ _ (by rw[h.lL];exact H)]
  split
  . rename_i e;rw[e];exact O
  . exact fL b I
def Ce(L:List (List Sp))(a s:Nat):lsp L a s=sv (L.getD a []) s:=rfl
def CoM.ask(h:CoM c n N ml st)(y:cO c n N ml){i:Nat}(hi:i<n):CoM c n N ml (bG c st i):=by
 have O:=xq h.v y.inj hi;unfold bG at O ⊢;split
 .rename_i I;rw[if_pos I]at O;have H:=y.nd i hi
  exact h.updA hi (p':={(sv st.T i)with pc:=1}) (by unfold cX;omega) ah4 rfl rfl (λ_ _=>rfl) (λj V=>(y.nd j V).1) rfl h.fG
   (h.setLL H.1 h.fL (by rw[Ce];exact(h.fL _ H.1).ask y.k.2 H.2)) (by show(setL c st i _).length=N;rw[uv,h.lL]) O
 .exact h
def CoM.leave(h:CoM c n N ml st)(y:cO c n N ml){i:Nat}(hi:i<n):CoM c n N ml (aA st i):=by
 have O:=ql h.v y.inj hi;unfold aA at O ⊢;split;.rename_i H;rw[if_pos H]at O;have V:=h.v.k i hi;have hs:=(h.sj i hi).2.2.1 ahy;exact h.updB y hi (p':={(sv st.T i)with pc:=11}) (by unfold dt at V;omega) rfl (λ_ _=>rfl) (λ_ _ _=>rfl) ⟨λe=>by simp at e,λe=>by simp at e,λ_=>hs,λe=>by simp at e,λe=>by simp at e⟩ (λI=>absurd (show cX {(sv st.T i)with pc:=11} from .inr (.inr ⟨by show(10:Int)<=11;decide,by show(11:Int)<=15;decide⟩)) I) rfl h.fG h.fL h.lL O
 .exact h
theorem CoM.step(h:CoM c n N ml st)(y:cO c n N ml)(hB:CoB c B st)(KD:1<=B)(KE:B<=10000000000000){i:Nat}(hi:i<n):CoM c n N ml (ak c st i):=by
 have O:=sP h.v y.inj y.k hi;have H:=y.nd i hi;have Lh:=h.v.k i hi;have hq:=h.v.lpc hi;have hg:=h.v.gpc hi;have sL:=jc (t:=c.tl (c.node i)) (m:=c.m) (s:=st.s) (i:=(c.slot i:Int)) y.k.2 hq;have sG:=jc (t:=c.tg) (m:=c.m) (s:=st.s) (i:=(c.node i:Int)) y.k.1 hg;have Om:i<st.T.length:=by have:=h.v.lT;omega
 have Nt:c.node i<st.G.length:=by rw[h.fG.len];exact H.1
 have QY:∀q a,a≠c.node i->sv (st.G.set (c.node i) q) a=sv st.G a:=λq a e=>by rw[svS Nt,if_neg e]
 have QX:∀q,sv (st.G.set (c.node i) q) (c.node i)=q:=λq=>by rw[svS Nt,if_pos rfl]
 have Kp:=h.sj i hi;have WB:¬cX (sv st.T i)->(lsp st.L (c.node i) (c.slot i)).pc=10->FrP (sv st.G (c.node i)) (ldW st.s.W (c.cw (c.node i))):=λI h10=>by refine h.fr _ H.1 (λj hj hn Uh=>?_);have e:=h.uniq y hi hj hn.symm h10 Uh;rw[<-e]at Uh;exact I Uh
 unfold ak at O ⊢;split;.exact h
 rename_i ab;rw[if_neg ab]at O;obtain⟨p,hp⟩:=LE (sv st.T i);rw[<-hp]at Lh ab O Kp WB ⊢;have hc:p.pc=1\/p.pc=2\/p.pc=3\/p.pc=4\/p.pc=11\/p.pc=12\/p.pc=13\/p.pc=14\/p.pc=15\/p.pc=16:=by unfold dt at Lh;omega
 have Pb:¬cX p->¬cX (sv st.T i):=by rw[hp];exact id
 have LS:=(h.fL _ H.1).step y.k.2 hB.w ahy KE H.2 hq;have LF:=h.frL y H.1 (dc _ _ _ _ _ _).2 LS.2;have GS:=h.fG.step y.k.1 hB.w ahy KE H.1 hg;have GF:=h.frG y (dc _ _ _ _ _ _).2 GS.2;obtain⟨pc,u,b,z⟩:=p;simp only at hc;have Mi:pc≠0->pc≠1->pc≠16->(lsp st.L (c.node i) (c.slot i)).pc=10:=λa0 a1 a2=>by unfold dt at Lh;simp only at Lh;omega
 have nl:=λb I=>(h.fL b I)
 have VY:∀b,b<N->cB c.kl (c.tl b) c.m (ml b) (stL c st i).1.W ((setL c st i (stL c st i).2).getD b []):=λb I=>by
  unfold setL;rw[qy _ _ _ _ (by rw[h.lL];exact H.1)];split;.rename_i e;rw[e];exact LS.1
  .rename_i e;exact LF.2.1 b I e
 have S9:∀q,(setL c st i q).length=N:=λq=>by rw[uv,h.lL]
 rcases hc with rfl|rfl|rfl|rfl|rfl|rfl|rfl|rfl|rfl|rfl
 .rw[mv1]at O ⊢;refine h.updA (p':=if mr c st i then⟨2,u,b,z⟩else⟨1,u,b,z⟩) hi (Pb ah4) ?_ rfl rfl LF.2.2 (λj hj=>(y.nd j hj).1) (dc _ _ _ _ _ _).2 LF.1 VY (S9 _) O;unfold cX;split<;>simp
 .have h10:=Mi ahA ahA ahA;have hF:=(WB ah4 h10).of;rw[mv2]at O ⊢;split;.rename_i Mw;rw[if_pos Mw]at O;refine h.updB y (p':=⟨10,ldW st.s.W (c.cw (c.node i)),b,z⟩) hi h10 rfl (λ_ _=>rfl) (λa _ _=>by show ldW (af _ _).W _=_;rw[aQ]) ?_ (λI=>absurd (show cX _ from .inr (.inr ⟨by show(10:Int)<=10;decide,by show(10:Int)<=15;decide⟩)) I) air (by show cB _ _ _ _ (af _ _).W _;rw[aQ];exact h.fG) (λb I=>by show cB _ _ _ _ (af _ _).W _;rw[aQ];exact h.fL b I) h.lL O;exact⟨λe=>by simp at e,λe=>by simp at e,λ_=>hF.1 Mw,λe=>by simp at e,λe=>by simp at e⟩
  .rename_i Mw;rw[if_neg Mw]at O;have g0:=hF.2 Mw;refine h.updB y (p':=⟨3,ldW st.s.W (c.cw (c.node i)),b,z⟩) hi h10 rfl (λa e=>QY _ a e) (λa _ _=>by show ldW (af _ _).W _=_;rw[aQ]) ?_ (λI=>absurd (show cX _ from .inl rfl) I) air (by show cB _ _ _ _ (af _ _).W _;rw[aQ];exact h.fG.ask y.k.1 H.1) (λb I=>by show cB _ _ _ _ (af _ _).W _;rw[aQ];exact h.fL b I) h.lL O;refine⟨λ_=>⟨?_,?_⟩,λe=>by simp at e,λe=>by simp at e,λe=>by simp at e,λe=>by simp at e⟩;.show 0<(sv (st.G.set (c.node i) (askK c.kg (sv st.G (c.node i)))) (c.node i)).pc/\(sv (st.G.set (c.node i) (askK c.kg (sv st.G (c.node i)))) (c.node i)).pc<10;rw[QX,ny g0];decide
   .show ¬0<ldW (af _ _).W _;rw[aQ];exact Mw
 .have h10:=Mi ahA ahA ahA;have Lc:=Kp.1 rfl;have s2:=sG.2.1 Lc.1.1 Lc.1.2;have ec:n5 c st i=decide ((stG c st i).2.pc=10):=qZ Lc.1.1 Lc.1.2 s2.1;rw[mv3]at O ⊢;refine h.updB y (p':=if n5 c st i then⟨4,u,b,z⟩else⟨3,u,b,z⟩) hi h10 rfl (λa e=>QY _ a e) (λa Y _=>GF.2 a Y) ?_ ?_ (dc _ _ _ _ _ _).2 GS.1 GF.1 h.lL O
  .show StP _ (sv (st.G.set (c.node i) (stG c st i).2) (c.node i)) (ldW (stG c st i).1.W (c.cw (c.node i)));rw[QX,show ldW (stG c st i).1.W (c.cw (c.node i))=_ from GF.2 _ H.1];split;.rename_i e;rw[ec]at e;have e':(stG c st i).2.pc=10:=(by simpa using e);exact⟨λe=>by simp at e,λ_=>⟨e',Lc.2⟩,λe=>by simp at e,λe=>by simp at e,λe=>by simp at e⟩
   .rename_i e;rw[ec]at e;have e':¬(stG c st i).2.pc=10:=(by simpa using e);refine⟨λ_=>⟨⟨s2.1,?_⟩,Lc.2⟩,λe=>by simp at e,λe=>by simp at e,λe=>by simp at e,λe=>by simp at e⟩;have:=s2.2;show(stG c st i).2.pc<10;unfold stG at *;omega
  .intro I;exfalso;apply I;unfold cX;split<;>simp
 .have h10:=Mi ahA ahA ahA;have Ml:=Kp.2.1 rfl;have V:=h.frC y H.1 1;rw[mv4]at O ⊢;refine h.updB y (p':=⟨10,1,b,z⟩) hi h10 rfl (λ_ _=>rfl) (λa Y e=>by show ldW (ae _ _ _).W _=_;rw[ay];exact V.2.2.1 a Y e) ?_ (λI=>absurd (show cX _ from .inr (.inr ⟨by show(10:Int)<=10;decide,by show(10:Int)<=15;decide⟩)) I) ait (by show cB _ _ _ _ (ae _ _ _).W _;rw[ay];exact V.1) (λb I=>by show cB _ _ _ _ (ae _ _ _).W _;rw[ay];exact V.2.1 b I) h.lL O;exact⟨λe=>by simp at e,λe=>by simp at e,λ_=>Ml.1,λe=>by simp at e,λe=>by simp at e⟩
 .have h10:=Mi ahA ahA ahA;have hs:=Kp.2.2.1 ahz;rw[Gg]at O ⊢;refine h.updB y (p':=⟨if c.bud<ldW st.s.W (c.cw (c.node i))then 14 else 12,ldW st.s.W (c.cw (c.node i)),b,z⟩) hi h10 rfl (λ_ _=>rfl) (λa _ _=>by show ldW (af _ _).W _=_;rw[aQ]) ?_ ?_ air (by show cB _ _ _ _ (af _ _).W _;rw[aQ];exact h.fG) (λb I=>by show cB _ _ _ _ (af _ _).W _;rw[aQ];exact h.fL b I) h.lL O;.refine⟨λe=>?_,λe=>?_,λ_=>hs,λe=>?_,λe=>?_⟩<;>(simp only at e;split at e<;>omega)
  .intro I;exfalso;apply I;unfold cX;simp only;split<;>simp
 .have h10:=Mi ahA ahA ahA;have hs:=Kp.2.2.1 ahz;rw[Gh]at O ⊢;have NP:(cG c.kl (c.tl (c.node i)) st.s (c.slot i) (lsp st.L (c.node i) (c.slot i))).1.W=st.s.W:=by unfold cG;(repeat' split)<;>first|rfl|exact aQ _ _
  refine h.updB y (p':=⟨if m6 u c.bud (cG c.kl (c.tl (c.node i)) st.s (c.slot i) (lsp st.L (c.node i) (c.slot i))).2 then 13 else 14,u,b,z⟩) hi h10 rfl (λ_ _=>rfl) (λa _ _=>by show ldW (cG _ _ _ _ _).1.W _=_;rw[NP]) ?_ ?_ (by show(cG _ _ _ _ _).1.W.length=_;rw[NP]) (by show cB _ _ _ _ (cG _ _ _ _ _).1.W _;rw[NP];exact h.fG) (λb I=>by show cB _ _ _ _ (cG _ _ _ _ _).1.W _;rw[NP];exact h.fL b I) h.lL O
  .refine⟨λe=>?_,λe=>?_,λ_=>hs,λe=>?_,λe=>?_⟩;.simp only at e;split at e<;>omega
   .simp only at e;split at e<;>omega
   .simp only at e;split at e;.rename_i UH;unfold m6 at UH;simp only[Bool.and_eq_true,decide_eq_true_eq]at UH;exact UH.1.1
    .omega
   .simp only at e;split at e<;>omega
  .intro I;exfalso;apply I;unfold cX;simp only;split<;>simp
 .have h10:=Mi ahA ahA ahA;have hs:=Kp.2.2.1 ahz;have hu:=Kp.2.2.2.1 rfl;have V:=h.frC y H.1 (u+1);rw[Gi]at O ⊢;refine h.updB y (p':=⟨16,u,b,z⟩) hi h10 rfl (λ_ _=>rfl) (λa Y e=>by show ldW (ae _ _ _).W _=_;rw[ay];exact V.2.2.1 a Y e) (j9 ah4) ?_ ait (by show cB _ _ _ _ (ae _ _ _).W _;rw[ay];exact V.1) ?_ (S9 _) O;.intro _;show FrP _ (ldW (ae _ _ _).W _);rw[ay,V.2.2.2];unfold FrP;rw[if_pos (by simp only at hu;omega)];exact hs
  .show ∀b,b<N->cB _ _ _ _ (ae _ _ _).W _;rw[ay];exact h.setLL H.1 V.2.1 (by rw[Ce];exact(V.2.1 _ H.1).leave y.k.2 H.2)
 .have h10:=Mi ahA ahA ahA;have hs:=Kp.2.2.1 ahz;have V:=h.frC y H.1 0;rw[Gj]at O ⊢;refine h.updB y (p':=⟨15,u,b,z⟩) hi h10 rfl (λa e=>QY _ a e) (λa Y e=>by show ldW (ae _ _ _).W _=_;rw[ay];exact V.2.2.1 a Y e) ?_ (λI=>absurd (show cX _ from .inr (.inr ⟨by show(10:Int)<=15;decide,by show(15:Int)<=15;decide⟩)) I) ait (by show cB _ _ _ _ (ae _ _ _).W _;rw[ay];exact V.1.leave y.k.1 H.1) (λb I=>by show cB _ _ _ _ (ae _ _ _).W _;rw[ay];exact V.2.1 b I) h.lL O;refine⟨λe=>by simp at e,λe=>by simp at e,λe=>by simp at e,λe=>by simp at e,λ_=>⟨?_,?_⟩⟩;.show 10<(sv (st.G.set (c.node i) (bf (sv st.G (c.node i)))) (c.node i)).pc;rw[QX,mH hs];decide
  .show ¬0<ldW (ae _ _ _).W _;rw[ay,V.2.2.2];decide
 .have h10:=Mi ahA ahA ahA;have hs:=Kp.2.2.2.2 rfl;have s2:=sG.2.2 hs.1;have ec:n5 c st i=decide ((stG c st i).2.pc=0):=oe hs.1 s2;rw[Gk]at O ⊢;split;.rename_i e;rw[if_pos e]at O;rw[ec]at e;have e':(stG c st i).2.pc=0:=(by simpa using e);refine h.updB y (p':=⟨16,u,b,z⟩) hi h10 rfl (λa e=>QY _ a e) (λa Y _=>GF.2 a Y) (j9 ah4) ?_ (dc _ _ _ _ _ _).2 GS.1 (h.setLL H.1 GF.1 (by rw[Ce];exact(GF.1 _ H.1).leave y.k.2 H.2)) (S9 _) O;intro _;show FrP (sv (st.G.set (c.node i) (stG c st i).2) (c.node i)) (ldW (stG c st i).1.W (c.cw (c.node i)));rw[QX,show ldW (stG c st i).1.W (c.cw (c.node i))=_ from GF.2 _ H.1];unfold FrP;rw[if_neg hs.2];exact e'
  .rename_i e;rw[if_neg e]at O;rw[ec]at e;have e':¬(stG c st i).2.pc=0:=(by simpa using e);refine h.updB y (p':=⟨15,u,b,z⟩) hi h10 rfl (λa e=>QY _ a e) (λa Y _=>GF.2 a Y) ?_ (λI=>absurd (show cX _ from .inr (.inr ⟨by show(10:Int)<=15;decide,by show(15:Int)<=15;decide⟩)) I) (dc _ _ _ _ _ _).2 GS.1 GF.1 h.lL O;refine⟨λe=>by simp at e,λe=>by simp at e,λe=>by simp at e,λe=>by simp at e,λ_=>⟨?_,?_⟩⟩;.show 10<(sv (st.G.set (c.node i) (stG c st i).2) (c.node i)).pc;rw[QX];unfold stG at *;omega
   .show ¬0<ldW (stG c st i).1.W (c.cw (c.node i));rw[show ldW (stG c st i).1.W (c.cw (c.node i))=_ from GF.2 _ H.1];exact hs.2
 .rw[Gl]at O ⊢;refine h.updA (p':=if mr c st i then⟨0,u,b,z⟩else⟨16,u,b,z⟩) hi (Pb ah4) ?_ rfl rfl LF.2.2 (λj hj=>(y.nd j hj).1) (dc _ _ _ _ _ _).2 LF.1 VY (S9 _) O;unfold cX;split<;>simp
end
end
end Go.Proofs.YtglokdbiggbkjaaGreat
