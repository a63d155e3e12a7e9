/- Joined texts. -/
import Derived.Handy
import Derived.Test.YtglokdbiggbkjaaGreatMgBoltLoops0
import Derived.Test.YtglokdbiggbkjaaGreatMgBoltLoops6
import Derived.Test.YtglokdbiggbkjaaGreatMgBoltLoops7
import Derived.Test.YtglokdbiggbkjaaGreatMgBoltLoops8
import Derived.Test.YtglokdbiggbkjaaGreatMgBoltLoops14
set_option linter.unusedVariables false
set_option linter.unusedSimpArgs false
set_option linter.defProp false
set_option maxRecDepth 100000
set_option maxHeartbeats 16000000
open Go.Proofs.Tryz
namespace Go.Proofs.YtglokdbiggbkjaaGreat
open Go.IntKind(i64)
open Go.Value(int bool slice agg tuple pointer)
open Go.Ending(returned)
open Go.Obj(cells)
variable{w':World}{a j n:Nat}{u:Value}{B t m v x:Int}{f f':Int->Int}{W:List Int}
section
open Go.RowKit
section
variable{w:World}{g k:Nat}{x:Fx}{s:Ar}{S:List Sp}
def KIs.pi(h:KIs w a g 3 x s S):w.cell? x.l=some ↑a/\Z w x.l 1 (J x.t)/\Z w x.l 2 (J x.m)/\Z w x.l 3 (slice (some ⟨x.q,0,none⟩) x.n x.cap):=⟨h.lk.cell 0,h.lk.cell 1,h.lk.cell 2,h.lk.cell 3⟩
def KIs.qt(h:KIs w a g k x s S)(q:Qt w w'):KIs w' a g k x s S:=h.turns (T:=[]) (aa.of_qt q) ahC ahC ahC ahC
def lM(h:KIs w a g 3 x s S)(y:Int)(V:0<=y/\y<=10000000000000):E 178 #[↑x.l,J y] w λe w'=>e= returned (J (pPl x.t x.m y))/\Qt w w':=by
 obtain⟨c0,c1,c2,c3⟩:=h.pi;have t1:=h.t1;have m0:=h.m0;have m1:=h.m1;have hm:((x.m:Int)==0)=false:=by simp;omega
 have I:y%(x.m:Int)<x.m:=Int.emod_lt_of_pos _ ahB;have O:0<=y%(x.m:Int):=Int.emod_nonneg _ ahB;obtain⟨r,H⟩:=LE (y%(x.m:Int));have e0:y.tmod (x.m:Int)=r:=by rw[H];exact Int.tmod_eq_emod_of_nonneg V.1
 have e1:IntKind.i64.wrap ((x.t:Int)+1)=(x.t:Int)+1:=IntWalk.i64_in _ ahB;have e2:IntKind.i64.wrap ((x.t:Int)+1+r)=(x.t:Int)+1+r:=IntWalk.i64_in _ (by rw[<-H]at I O;omega);have HX:Kq (pPl x.t x.m y=(x.t:Int)+1+r):=qh (by unfold pPl;rw[H]);have Y:=qh H;rw[HX.o];rw[<-H]at I O;clear h H;go_enter func178,ntmps178;go_wp2_with fail;go_quiet (fail);go_wp2;go_ret;exact⟨rfl,⟨nq,rfl⟩⟩
def p5(h:KIs w a g 3 x s S)(y:Int)(hy:0<=y/\y<=1000000000000)(V:s.ops+1<=1000000000000):E 435 #[↑x.l,J y] w λe w'=>e= returned (bool (decide (ldW s.W (pPl x.t x.m y)=y+1)))/\KIs w' a g 3 x (af s (pPl x.t x.m y)) S/\aa [a,g,x.q] w w':=by
  obtain⟨ad,Y⟩:=LE (pPl x.t x.m y);obtain⟨ab,mb⟩:=LE (af s ad);obtain⟨v,O⟩:=LE (ldW s.W ad);have i':=(λW (k:KIs W a g 3 x s S)=>aD k.ar ad V);rw[<-mb,<-O]at i';have PA:=(λW (k:KIs W a g 3 x s S)=>lM k y ahB);rw[<-Y]at PA;rw[<-Y,<-O,<-mb];have e2:IntKind.i64.wrap (y+1)=y+1:=IntWalk.i64_in _ ahB;have HO:=qh i';have Tq:=qh PA;have H:=qh (h.below ((Below.refl _ w).drew));clear i' h mb O PA Y;cases hd:(v==y+1)
  all_goals
    go_enter func435,ntmps435;go_wp2_with fail;first
    | (go_region_held3 (λW=>W.cell? x.l=some ↑a/\Z W x.l 1 (J x.t)/\Z W x.l 2 (J x.m)/\Z W x.l 3 (slice (some ⟨x.q,0,none⟩) x.n x.cap))
        (first|with_reducible exact H.o.pi|with_reducible exact Q2.o.pi|with_reducible exact I.o.pi)
        (first
          | (go_at_call 178;go_loud (refine Op (Tq.o _ H.o) λw2 q2=>?_);have Q2:=qh (H.o.qt q2.o);have T1:=qh (((aa.refl [a,g,x.q] w).drew).trans (aa.of_qt q2.o)))
          | (go_at_call 173;go_loud (refine Op (HO.o _ Q2.o) λw3 a3=>?_);have I:=qh (Q2.o.op a3.o.2 a3.o.1);have T2:=qh (T1.o.trans (aM a3.o.2)))))
    | fail "held"
  all_goals go_wp2;go_ret;first| exact⟨by rw[decide_eq_true ahR];rfl,I.o,T2.o⟩| exact⟨by rw[decide_eq_false ahR];rfl,I.o,T2.o⟩
def tG(h:KIs w a g 3 x s S)(y:Int)(hy:0<=y/\y<=1000000000000)(V:s.ops+1<=1000000000000):E 432 #[↑x.l,J y] w λe w'=>e= returned (bool (decide (ldW s.W ((x.t:Int))=y+1)))/\KIs w' a g 3 x (af s ((x.t:Int))) S/\aa [a,g,x.q] w w':=by
  obtain⟨ad,Y⟩:=LE ((x.t:Int));obtain⟨ab,mb⟩:=LE (af s ad);obtain⟨v,O⟩:=LE (ldW s.W ad);have i':=(λW (k:KIs W a g 3 x s S)=>aD k.ar ad V);rw[<-mb,<-O]at i';rw[<-Y,<-O,<-mb];have e2:IntKind.i64.wrap (y+1)=y+1:=IntWalk.i64_in _ ahB;have HO:=qh i';rw[Y]at HO;have H:=qh (h.below ((Below.refl _ w).drew));clear i' h mb O Y;cases hd:(v==y+1)
  all_goals
    go_enter func432,ntmps432;go_wp2_with fail;first
    | (go_region_held3 (λW=>W.cell? x.l=some ↑a/\Z W x.l 1 (J x.t)/\Z W x.l 2 (J x.m)/\Z W x.l 3 (slice (some ⟨x.q,0,none⟩) x.n x.cap))
        (first|with_reducible exact H.o.pi|with_reducible exact Q2.o.pi|with_reducible exact I.o.pi)
        (first
          | (go_at_call 173;go_loud (refine Op (HO.o _ H.o) λw3 a3=>?_);have I:=qh (H.o.op a3.o.2 a3.o.1);have T2:=qh (((aa.refl [a,g,x.q] w).drew).trans (aM a3.o.2)))))
    | fail "held"
  all_goals go_wp2;go_ret;first| exact⟨by rw[decide_eq_true ahR];rfl,I.o,T2.o⟩| exact⟨by rw[decide_eq_false ahR];rfl,I.o,T2.o⟩
def sD(h:KIs w a g 3 x s S)(i:Nat)(u b z:Int)(hp:S[i]? =some (⟨2,u,b,z⟩:Sp))(H:0<=u/\u<=1000000000000)(V:s.ops+1<=1000000000000):E 431 #[↑x.l,J i,J 2,.func (.func 435) #[] #[]] w λe w'=>e= returned (bool (decide (ldW s.W (pPl x.t x.m u)=u+1)))/\KIs w' a g 3 x (af s (pPl x.t x.m u)) S/\aa [a,g,x.q] w w':=by refine aiU ?_;intro hi;refine akg ?_;intro a0;have a1:=h.sp.cell hp 1 _ rfl;have HL:=qh (p5 h u H V);exact aaM
def yk(h:KIs w a g 3 x s S)(i:Nat)(u b z:Int)(hp:S[i]? =some (⟨10,u,b,z⟩:Sp))(H:0<=u/\u<=1000000000000)(V:s.ops+1<=1000000000000):E 431 #[↑x.l,J i,J 10,.func (.func 432) #[] #[]] w λe w'=>e= returned (bool (decide (ldW s.W ((x.t:Int))=u+1)))/\KIs w' a g 3 x (af s ((x.t:Int))) S/\aa [a,g,x.q] w w':=by refine aiU ?_;intro hi;refine akg ?_;intro a0;have a1:=h.sp.cell hp 1 _ rfl;have HL:=qh (tG h u H V);exact aaM
def qP(h:KIs w a g 3 x s S)(i:Nat)(p:Sp)(I:S[i]? =some p)(H:p.pc=10)(V:s.ops+1<=1000000000000)(O:0<=p.a/\p.a<=1000000000000):E 425 #[↑x.l,J i] w (pV w a g 3 x s S i p):=by obtain⟨c,u,b,z⟩:=p;simp only at H O;subst H;have HA:=qh (yk h i u b z I O V);have HX:Kq (cD 3 x.t s i ⟨10,u,b,z⟩=(af s x.t,decide (ldW s.W x.t=u+1))):=qh rfl;clear h I;go_enter func425,ntmps425;go_wp2_with fail;refine Op HA.o λw2 Y=>?_;go_wp2;go_ret;rw[pV,HX.o];exact⟨rfl,Y.o⟩
def wP(h:KIs w a g 3 x s S)(i:Nat)(u b z:Int)(hp:S[i]? =some (⟨1,u,b,z⟩:Sp))(V:s.ops+1<=1000000000000)(hw:inR s.W x.t=true)(KI:0<=ldW s.W x.t)(Qj:ldW s.W x.t<=10000000000000):E 430 #[↑x.l,J i] w (dG w a g 3 x s S i ⟨1,u,b,z⟩):=by
  have LI:=aP;refine aiU ?_;intro hi;have hn:=h.n32;have OL:=h.cap;have t2:¬(i:Int)<0:=by omega
  have HS:=qh (ez .parted h i _ hp);unfold aF at HS;obtain⟨ab,mb⟩:=LE (addA s x.t 1);obtain⟨v,O⟩:=LE (ldW s.W x.t);have HX:Kq (bN 3 x.t x.m s i ⟨1,u,b,z⟩=(ab,⟨2,v,b,z⟩)):=qh ahN;have I:=(λW (k:KIs W a g 3 x s S)=>ir k.ar x.t 1 V);rw[if_pos hw,<-mb,<-O]at I;rw[<-O]at KI Qj;have e1:IntKind.i64.wrap (v+1)=v+1:=IntWalk.i64_in _ ahB;have e2:IntKind.i64.wrap v=v:=IntWalk.i64_in _ ahB;rw[e1]at I;have HO:=qh I;have Y:=qh hp;have K0:=qh h;clear I h hp mb O e1;go_enter func430,ntmps430;go_wp2_with fail;refine ajx ?_;intro w1 b1 TB K1 T0 TE;go_wp2_with fail
  go_region_held3 (λW=>W.cell? x.l=some ↑a/\Z W x.l 1 (J x.t)/\Z W x.l 2 (J x.m)/\Z W x.l 3 (slice (some ⟨x.q,0,none⟩) x.n x.cap))
    (first|with_reducible exact K1.o.pi|with_reducible exact H.o.pi|with_reducible exact K3.o.pi)
    (first
      | (go_at_call 298;go_loud (refine Op (HO.o _ K1.o) λw3 a3=>?_);have H:=qh (K1.o.op a3.o.2 a3.o.1);have T2:=qh (T0.o.trans (aM a3.o.2));have K3:=qh (H.o.put (p':=(⟨1,v,b,z⟩:Sp)) Y.o (j:=1) (u:= J v) ahD rfl);have e4:=H.o.sp.cell Y.o 1 _ rfl;have z1:=H.o.sp.free (i*4+1)))
  all_goals have HT:=qh (kp .parted i _ _ Y.o K3.o 2);go_wp2_with (go_at_call 433;refine HT.o.mono ?_;rintro e w' ⟨rfl,k4,t4⟩;have K4:=qh (And.intro k4 t4);clear k4 t4);go_ret;rw[dG,HX.o];exact⟨rfl,K4.o.1,(T2.o.trans (aJ (aW _ _ _))).trans (aJ K4.o.2)⟩
def wQ(h:KIs w a g 3 x s S)(i:Nat)(u b z:Int)(hp:S[i]? =some (⟨2,u,b,z⟩:Sp))(V:s.ops+1<=1000000000000)(hu:0<=u/\u<=1000000000000):E 430 #[↑x.l,J i] w (dG w a g 3 x s S i ⟨2,u,b,z⟩):=by
  have LI:=aP;refine aiU ?_;intro hi;have hn:=h.n32;have OL:=h.cap;have t2:¬(i:Int)<0:=by omega
  have HS:=qh (ez .parted h i _ hp);unfold aF at HS;obtain⟨ab,mb⟩:=LE (af s (pPl x.t x.m u));obtain⟨v,O⟩:=LE (ldW s.W (pPl x.t x.m u));have HX:Kq (bN 3 x.t x.m s i ⟨2,u,b,z⟩=(ab,⟨if v=u+1 then 10 else 2,u,b,z⟩)):=qh ahN;have I:=(λW (k:KIs W a g 3 x s S)=>sD k i u b z hp hu V);rw[<-mb,<-O]at I;have Y:=qh hp;have K0:=qh h;obtain⟨q,hq⟩:=LE (decide (v=u+1));rw[<-hq]at I;have HQ:=qh hq;have HA:=qh I;clear h hp mb O I hq;cases q
  all_goals
    go_enter func430,ntmps430;go_wp2_with fail;refine ajx ?_;intro w1 b1 TB K1 T0 TE;go_wp2_with fail;refine Op (HA.o _ TB.o) λw2 k2=>?_;have H:=qh (And.intro k2.o.1 (TE.o.trans k2.o.2))
    first
      | (have HT:=qh (kp .parted i _ _ Y.o (by rw[cj Y.o];exact H.o.1) 10)
         go_wp2_with (go_at_call 433;refine HT.o.mono ?_;rintro e w' ⟨rfl,k4,t4⟩;have K4:=qh (And.intro k4 t4);clear k4 t4)
         go_ret
         rw[dG,HX.o]
         rw[if_pos (by simpa using HQ.o.symm)]
         exact⟨rfl,K4.o.1,H.o.2.trans (aJ K4.o.2)⟩)
      | (go_wp2
         go_ret
         rw[dG,HX.o,if_neg (by simpa using HQ.o.symm),cj Y.o]
         exact⟨rfl,H.o.1,H.o.2⟩)
def uF(h:KIs w a g 3 x s S)(i:Nat)(u b z:Int)(hp:S[i]? =some (⟨11,u,b,z⟩:Sp))(V:s.ops+1<=1000000000000)(hu:0<=u/\u<=1000000000000):E 430 #[↑x.l,J i] w (dG w a g 3 x s S i ⟨11,u,b,z⟩):=by
  have LI:=aP;refine aiU ?_;intro hi;have hn:=h.n32;have OL:=h.cap;have t2:¬(i:Int)<0:=by omega
  have HS:=qh (ez .parted h i _ hp);unfold aF at HS;obtain⟨ad,O⟩:=LE (pPl x.t x.m (u+1));obtain⟨ab,mb⟩:=LE (ae s ad (u+2));have HX:Kq (bN 3 x.t x.m s i ⟨11,u,b,z⟩=(ab,⟨0,u,b,z⟩)):=qh (by rw[mb,O];rfl);have i':=(λW (k:KIs W a g 3 x s S)=>an k.ar ad (u+2) V);rw[<-mb]at i';have Y:=(λW (k:KIs W a g 3 x s S)=>lM k (u+1) ahB);rw[<-O]at Y;have Tq:=qh Y;have e1:IntKind.i64.wrap (u+1)=u+1:=IntWalk.i64_in _ ahB;have e2:IntKind.i64.wrap (u+2)=u+2:=IntWalk.i64_in _ ahB;have HO:=qh i';have I:Kq (∀W s (S':List Sp) (c:Int),KIs W a g 3 x s S'->S'[i]? =some (⟨c,u,b,z⟩:Sp)->W.cell? x.l=some ↑a/\Z W x.l 1 (J x.t)/\Z W x.l 2 (J x.m)/\Z W x.l 3 (slice (some ⟨x.q,0,none⟩) x.n x.cap)/\Z W x.q (i*4+1) (J u)):=qh (λW s S' c k hp=>⟨k.pi.1,k.pi.2.1,k.pi.2.2.1,k.pi.2.2.2,k.sp.cell hp 1 _ rfl⟩);have H:=qh hp;have K0:=qh h;clear i' Y h hp mb O;go_enter func430,ntmps430;go_wp2_with fail;refine ajx ?_;intro w1 b1 TB K1 T0 TE;go_wp2_with fail
  go_region_held3 (λW=>W.cell? x.l=some ↑a/\Z W x.l 1 (J x.t)/\Z W x.l 2 (J x.m)/\Z W x.l 3 (slice (some ⟨x.q,0,none⟩) x.n x.cap)/\Z W x.q (i*4+1) (J u))
    (first|with_reducible exact I.o _ _ _ _ K1.o H.o|with_reducible exact I.o _ _ _ _ Q2.o H.o|with_reducible exact I.o _ _ _ _ K2.o H.o)
    (first
      | (go_at_call 178;go_loud (refine Op (Tq.o _ K1.o) λw2 q2=>?_);have Q2:=qh (K1.o.qt q2.o);have T1:=qh (T0.o.trans (aa.of_qt q2.o)))
      | (go_at_call 177;go_loud (refine Op (HO.o _ Q2.o) λw3 a3=>?_);have K2:=qh (Q2.o.op a3.o.2 a3.o.1);have T2:=qh (T1.o.trans (aM a3.o.2))))
  all_goals have HT:=qh (kp .parted i _ _ H.o (by rw[cj H.o];exact K2.o) 0);go_wp2_with (go_at_call 433;refine HT.o.mono ?_;rintro e w' ⟨rfl,k4,t4⟩;have K4:=qh (And.intro k4 t4);clear k4 t4);go_ret;rw[dG,HX.o];exact⟨rfl,K4.o.1,T2.o.trans (aJ K4.o.2)⟩
def pF(h:KIs w a g 3 x s S)(i:Nat)(p:Sp)(I:S[i]? =some p)(V:p.pc=0\/p.pc=10):E 430 #[↑x.l,J i] w (dG w a g 3 x s S i p):=by
  have LI:=aP;have H:=qh (ez .parted h i _ I);unfold aF at H;obtain⟨c,u,b,z⟩:=p;have Y:=qh I;have K0:=qh h;clear h I;simp only at V H;rcases V with rfl|rfl
  all_goals go_enter func430,ntmps430;go_wp2_with fail;refine Op H.o λw1 O=>?_;go_wp2;go_ret;refine⟨rfl,?_,aa.of_below O.o⟩;have k:=K0.o.below O.o;rw[<-cj Y.o]at k;exact k
end
end
section
open Go.RowKit
section
variable{w w0:World}{g k bx:Nat}{x:Fx}{s s':Ar}{S S':List Sp}
def KIs.ci(h:KIs w a g 5 x s S):w.cell? x.l=some ↑a/\Z w x.l 1 (J x.t)/\Z w x.l 2 (slice (some ⟨x.q,0,none⟩) x.n x.cap):=⟨h.lk.cell 0,h.lk.cell 1,h.lk.cell 2⟩
structure KBx(w0 w:World)(a g:Nat)(x:Fx)(s:Ar)(S:List Sp)(bx:Nat):Prop where
 ki:KIs w a g 5 x s S
 bk:Blk w bx 299 #[↑x.l]
 nS:bx∉[a,g,x.q]
 tn:aa [a,g,x.q] w0 w
def KBx.to(h:KBx w0 w a g x s S bx)(k:KIs w' a g 5 x s' S')(t:aa [a,g,x.q] w w'):KBx w0 w' a g x s' S' bx:=⟨k,t.blk h.bk h.nS,h.nS,h.tn.trans t⟩
def KBx.drew(h:KBx w0 w a g x s S bx):KBx w0 w.drew a g x s S bx:=h.to (h.ki.below (Below.refl _ _).drew) (aa.refl _ _).drew
def KBx.op(h:KBx w0 w a g x s S bx)(t:aa [a,g] w w')(H:aB w' a g s'):KBx w0 w' a g x s' S bx:=h.to (h.ki.op t H) (aM t)
def KBx.put(h:KBx w0 w a g x s S bx){i:Nat}{p p':Sp}(O:S[i]? =some p)(I:j<4)(H:(bi p).set j u=bi p'):KBx w0 (w.setCell ⟨x.q,i*4+j,none⟩ u) a g x s (S.set i p') bx:=h.to (h.ki.put O I H) (aJ (aW _ _ _))
def KBx.put0(h:KBx w0 w a g x s S bx){i:Nat}{p p':Sp}(I:S[i]? =some p)(H:(bi p).set 0 u=bi p'):KBx w0 (w.setCell ⟨x.q,i*4,none⟩ u) a g x s (S.set i p') bx:=h.put I (j:=0) ahD H
def KBx.new(h:KIs w a g 5 x s S):KBx w (w.alloc (cells #[↑x.l] 299)) a g x s S w.heap.size:=by have h1:=h.ar.blk.lt;have H:=h.ar.wds.lt;have I:=h.sp.lt;exact⟨h.below ((Below.refl _ _).alloc (Nat.le_refl _) _),Blk.new w _ _,by simp;omega,(aa.refl _ _).alloc _⟩
def KBx.cs(h:KBx w0 w a g x s S bx){i:Nat}{p:Sp}(H:S[i]? =some p):w.cell? bx=some ↑x.l/\w.cell? x.l=some ↑a/\Z w x.q (i*4+1) (J p.a)/\Z w x.q (i*4+2) (J p.b):=⟨h.bk.cell 0,h.ki.ci.1,h.ki.sp.cell H 1 _ rfl,h.ki.sp.cell H 2 _ rfl⟩
def ni(h:KBx w0 w a g x s S bx)(n r:Int)(I:(x.t:Int)+n=r)(O:-10<=n/\n<=10000000000000):E 457 #[J n,↑bx] w λe w'=>e= returned (J r)/\w=w':=by
 have c0:w.cell? bx=some ↑x.l:=h.bk.cell 0;have c1:=h.ki.ci.2.1;have t1:=h.ki.t1;have H:IntKind.i64.wrap ((x.t:Int)+n)=r:=by rw[I];exact IntWalk.i64_in _ ahB
 clear h I;go_enter func457,ntmps457;exact aaa
def zH(h:KIs w a g 5 x s S)(i:Nat)(u b z:Int)(hp:S[i]? =some (⟨1,u,b,z⟩:Sp))(V:s.ops+1<=1000000000000)(hu:0<=u/\u<=1000000000000):E 454 #[↑x.l,J i] w (dG w a g 5 x s S i ⟨1,u,b,z⟩):=by
  refine aiU ?_;intro hi;have hn:=h.n32;refine ajm ?_;intro Mn N0 HP;obtain⟨O,I⟩:=LE ((x.t:Int)+u);obtain⟨ab,mb⟩:=LE (ae s O 1);have HX:Kq (bN 5 x.t x.m s i ⟨1,u,b,z⟩=(ab,⟨2,u,b,z⟩)):=qh (by rw[mb,I];rfl);have Y:=(λW (k:KIs W a g 5 x s S)=>an k.ar O 1 V);rw[<-mb]at Y;have HO:=qh Y;have HB:=qh (λW (k:KBx w W a g x s S w.heap.size)=>ni k u O I.symm ahB);have t1:=h.t1;clear Y h hp mb I;go_enter func454,ntmps454;refine ajt ?_;intro a0 b0 N1;go_wp2_with (go_at_call 456;refine(Mn.o _ N0.o).mono ?_;rintro e w' ⟨rfl,rfl⟩);go_wp2_with fail
  go_region_held3 (λW=>W.cell? w.heap.size=some ↑x.l/\W.cell? x.l=some ↑a/\Z W x.q (i*4+1) (J u)/\Z W x.q (i*4+2) (J b))
    (first|with_reducible exact N1.o.cs HP.o|with_reducible exact H.o.cs HP.o)
    (first
      | (go_at_call 457;go_loud (refine LT (HB.o _ N1.o) ?_))
      | (go_at_call 177;go_loud (refine Op (HO.o _ N1.o.ki) λw3 a3=>?_);have H:=qh (N1.o.op a3.o.2 a3.o.1)))
  all_goals have d0:=ST (H.o.ki.sp.cell HP.o 0 _ rfl);have z0:=H.o.ki.sp.free (i*4);have N3:=qh (H.o.put0 HP.o (p':=(⟨2,u,b,z⟩:Sp)) (u:= J 2) rfl);go_wp2;go_ret;rw[dG,HX.o];exact⟨rfl,N3.o.ki,N3.o.tn⟩
def zI(h:KIs w a g 5 x s S)(i:Nat)(u b z:Int)(hp:S[i]? =some (⟨2,u,b,z⟩:Sp))(V:s.ops+1<=1000000000000)(hu:0<=u/\u<=1000000000000):E 454 #[↑x.l,J i] w (dG w a g 5 x s S i ⟨2,u,b,z⟩):=by
  refine aiU ?_;intro hi;have hn:=h.n32;refine ajm ?_;intro Mn N0 HP;obtain⟨Y,Lw⟩:=LE ((x.t:Int));obtain⟨ab,mb⟩:=LE (cr s Y u);obtain⟨v,O⟩:=LE (ldW s.W Y);have HX:Kq (bN 5 x.t x.m s i ⟨2,u,b,z⟩=(ab,⟨3,u,v,z⟩)):=qh (by rw[mb,O,Lw];rfl);have i':=(λW (k:KIs W a g 5 x s S)=>fD k.ar Y u V);rw[<-mb,<-O]at i';have HO:=qh i';have HB:=qh (λW (k:KBx w W a g x s S w.heap.size)=>ni k 0 Y (by rw[Lw];omega) ahB);have HC:=qh (λW s (S:List Sp) (N:KBx w W a g x s S w.heap.size) (y:Int) (hp:S[i]? =some (⟨2,u,y,z⟩:Sp))=>And.intro (N.cs hp).1 (And.intro (N.cs hp).2.1 (N.cs hp).2.2.1));have t1:=h.t1;clear i' h hp mb Lw O;go_enter func454,ntmps454;refine ajt ?_;intro a0 b0 N1;go_wp2_with (go_at_call 456;refine(Mn.o _ N0.o).mono ?_;rintro e w' ⟨rfl,rfl⟩);go_wp2_with fail
  go_region_held3 (λW=>W.cell? w.heap.size=some ↑x.l/\W.cell? x.l=some ↑a/\Z W x.q (i*4+1) (J u))
    (first|with_reducible exact HC.o _ _ _ N1.o _ HP.o|with_reducible exact HC.o _ _ _ H.o _ HP.o|with_reducible exact HC.o _ _ _ I.o _ (au HP.o _))
    (first
      | (go_at_call 457;go_loud (refine LT (HB.o _ N1.o) ?_))
      | (go_at_call 271;go_loud (refine Op (HO.o _ N1.o.ki) λw3 a3=>?_);have H:=qh (N1.o.op a3.o.2 a3.o.1);have I:=qh (H.o.put (p':=(⟨2,u,v,z⟩:Sp)) HP.o (j:=2) (u:= J v) ahD rfl);have e1:=H.o.ki.sp.cell HP.o 2 _ rfl;have z1:=H.o.ki.sp.free (i*4+2)))
  all_goals have d0:=ST (I.o.ki.sp.cell (au HP.o _) 0 _ rfl);have z0:=I.o.ki.sp.free (i*4);have N4:=qh (I.o.put0 (au HP.o _) (p':=(⟨3,u,v,z⟩:Sp)) (u:= J 3) rfl);clear e1 z1;go_wp2;go_ret;rw[dG,HX.o];have k:=N4.o.ki;rw[ed]at k;exact⟨rfl,k,N4.o.tn⟩
def zJ(h:KIs w a g 5 x s S)(i:Nat)(u b z:Int)(hp:S[i]? =some (⟨3,u,b,z⟩:Sp))(V:s.ops+1<=1000000000000)(hb:0<=b/\b<=1000000000000):E 454 #[↑x.l,J i] w (dG w a g 5 x s S i ⟨3,u,b,z⟩):=by
  refine aiU ?_;intro hi;have hn:=h.n32;refine ajm ?_;intro Mn N0 HP;obtain⟨ad,Lw⟩:=LE ((x.t:Int)+b);obtain⟨ab,mb⟩:=LE (af s ad);obtain⟨v,O⟩:=LE (ldW s.W ad);have HX:Kq (bN 5 x.t x.m s i ⟨3,u,b,z⟩=(ab,⟨if v=0 then 10 else 3,u,b,z⟩)):=qh (by rw[mb,O,Lw];rfl);have i':=(λW (k:KIs W a g 5 x s S)=>aD k.ar ad V);rw[<-mb,<-O]at i';have HO:=qh i';have HB:=qh (λW (k:KBx w W a g x s S w.heap.size)=>ni k b ad Lw.symm ahB);have t1:=h.t1;clear i' h hp mb Lw O;cases hc:(v==0)
  . go_enter func454,ntmps454;refine ajt ?_;intro a0 b0 N1;go_wp2_with (go_at_call 456;refine(Mn.o _ N0.o).mono ?_;rintro e w' ⟨rfl,rfl⟩);go_wp2_with fail;refine wp_region_held_drew (S:=(λW=>W.cell? w.heap.size=some ↑x.l/\W.cell? x.l=some ↑a/\Z W x.q (i*4+1) (J u)/\Z W x.q (i*4+2) (J b))) ahE (by exact N1.o.cs HP.o) (λhHeld=>?_);refine aja ?_;refine wpAnyH_ready (rs:=[9]) ahE ahC ?_;refine AllReadyH.cons rfl (λK hK=>?_) AllReadyH.nil;go_simp;go_at_call 457;refine LT (HB.o _ N1.o) ?_;refine hK.out _ _ ?_ (λhHeld=>?_);. exact N1.o.cs HP.o
    clear hK K;try simp only[Act.put,List.setIfInBounds_toArray,List.set_cons_zero,List.set_cons_succ,List.getElem_toArray,List.getElem_cons_zero,List.getElem_cons_succ]
    refine wpAnyH_ready (rs:=[10]) ahE ahC ?_;refine AllReadyH.cons rfl (λK hK=>?_) AllReadyH.nil;go_simp;go_at_call 173;refine Op (HO.o _ N1.o.ki) λw3 Y=>?_;have H:=qh (N1.o.op Y.o.2 Y.o.1);refine hK.out _ _ ?_ (λhHeld=>?_);. exact H.o.cs HP.o
    clear hK K;try simp only[Act.put,List.setIfInBounds_toArray,List.set_cons_zero,List.set_cons_succ,List.getElem_toArray,List.getElem_cons_zero,List.getElem_cons_succ]
    refine tk 11 ?_;refine tk 12 ?_;refine tk 13 ?_;refine tk 14 ?_;refine tk 15 ?_;refine tk 16 ?_;refine tk 17 ?_;refine wpAnyH_done ahE ?_ _;go_wp2;go_ret;rw[dG,HX.o];rw[if_neg ahI,cj HP.o];exact⟨rfl,H.o.ki,H.o.tn⟩
  . go_enter func454,ntmps454;refine ajt ?_;intro a0 b0 N1;go_wp2_with (go_at_call 456;refine(Mn.o _ N0.o).mono ?_;rintro e w' ⟨rfl,rfl⟩);go_wp2_with fail;first
    | (go_region_held3 (λW=>W.cell? w.heap.size=some ↑x.l/\W.cell? x.l=some ↑a/\Z W x.q (i*4+1) (J u)/\Z W x.q (i*4+2) (J b))
        (first|with_reducible exact N1.o.cs HP.o|with_reducible exact H.o.cs HP.o|with_reducible exact N4.o.cs (au HP.o _))
        (first
          | (go_at_call 457;go_loud (refine LT (HB.o _ N1.o) ?_))
          | (go_at_call 173;go_loud (refine Op (HO.o _ N1.o.ki) λw3 Y=>?_);have H:=qh (N1.o.op Y.o.2 Y.o.1);have HT:=qh (kp .clh i _ _ HP.o (by rw[cj HP.o];exact H.o.ki) 10))
          | (go_at_call 455;go_loud (refine Op HT.o λw4 k4=>?_);have N4:=qh (H.o.to k4.o.1 (aJ k4.o.2)))))
    | fail "held"
    all_goals go_wp2;go_ret;rw[dG,HX.o];rw[if_pos ahI];exact⟨rfl,N4.o.ki,N4.o.tn⟩
def wO(h:KIs w a g 5 x s S)(i:Nat)(u b z:Int)(hp:S[i]? =some (⟨11,u,b,z⟩:Sp))(V:s.ops+1<=1000000000000)(hu:0<=u/\u<=1000000000000):E 454 #[↑x.l,J i] w (dG w a g 5 x s S i ⟨11,u,b,z⟩):=by
  refine aiU ?_;intro hi;have hn:=h.n32;refine ajm ?_;intro Mn N0 HP;obtain⟨O,I⟩:=LE ((x.t:Int)+u);obtain⟨ab,mb⟩:=LE (ae s O 0);have HX:Kq (bN 5 x.t x.m s i ⟨11,u,b,z⟩=(ab,⟨0,b,b,z⟩)):=qh (by rw[mb,I];rfl);have Y:=(λW (k:KIs W a g 5 x s S)=>an k.ar O 0 V);rw[<-mb]at Y;have HO:=qh Y;have HB:=qh (λW (k:KBx w W a g x s S w.heap.size)=>ni k u O I.symm ahB);have t1:=h.t1;clear Y h hp mb I;go_enter func454,ntmps454;refine ajt ?_;intro a0 b0 N1;go_wp2_with (go_at_call 456;refine(Mn.o _ N0.o).mono ?_;rintro e w' ⟨rfl,rfl⟩);go_wp2_with fail
  go_region_held3 (λW=>W.cell? w.heap.size=some ↑x.l/\W.cell? x.l=some ↑a/\Z W x.q (i*4+1) (J u)/\Z W x.q (i*4+2) (J b))
    (first|with_reducible exact N1.o.cs HP.o|with_reducible exact H.o.cs HP.o)
    (first
      | (go_at_call 457;go_loud (refine LT (HB.o _ N1.o) ?_))
      | (go_at_call 177;go_loud (refine Op (HO.o _ N1.o.ki) λw3 a3=>?_);have H:=qh (N1.o.op a3.o.2 a3.o.1)))
  all_goals have d1:=H.o.ki.sp.cell HP.o 1 _ rfl;have d2:=H.o.ki.sp.cell HP.o 2 _ rfl;have z1:=H.o.ki.sp.free (i*4+1);have b2:=H.o.bk.cell 0;have N3:=qh (H.o.put HP.o (p':=(⟨11,b,b,z⟩:Sp)) (j:=1) (u:= J b) ahD rfl);have HT:=qh (kp .clh i _ _ HP.o N3.o.ki 0);go_wp2_with (go_at_call 455;refine HT.o.mono ?_;rintro e w' ⟨rfl,k4,t4⟩;have N4:=qh (N3.o.to k4 (aJ t4));clear k4 t4);go_ret;rw[dG,HX.o];exact⟨rfl,N4.o.ki,N4.o.tn⟩
def qF(h:KIs w a g 5 x s S)(i:Nat)(p:Sp)(hp:S[i]? =some p)(H:p.pc=0\/p.pc=10):E 454 #[↑x.l,J i] w (dG w a g 5 x s S i p):=by
  refine aiU ?_;intro hi;refine ajm ?_;intro Mn N0 HP;obtain⟨c,u,b,z⟩:=p;clear h hp;simp only at H;rcases H with rfl|rfl
  all_goals go_enter func454,ntmps454;refine ajt ?_;intro a0 b0 N1;go_wp2_with (go_at_call 456;refine(Mn.o _ N0.o).mono ?_;rintro e w' ⟨rfl,rfl⟩);go_ret;refine⟨rfl,?_,N0.o.tn⟩;have k:=N0.o.ki;rw[<-cj HP.o]at k;exact k
def yi(h:KIs w a g 5 x s S)(i:Nat)(p:Sp)(hp:S[i]? =some p)(Ki:p.pc=10)(V:s.ops+1<=1000000000000):E 449 #[↑x.l,J i] w (pV w a g 5 x s S i p):=by
  refine aiU ?_;intro hi;have hn:=h.n32;have OL:=h.cap;have LI:=aP;have t2:¬(i:Int)<0:=by omega
  obtain⟨c,u,b,z⟩:=p;simp only at Ki;subst Ki;obtain⟨ab,mb⟩:=LE (af s x.t);obtain⟨v,O⟩:=LE (ldW s.W x.t);have HX:Kq (cD 5 x.t s i ⟨10,u,b,z⟩=(ab,decide (v=u))):=qh ahN;have i':=(λW (k:KIs W a g 5 x s S)=>aD k.ar x.t V);rw[<-mb,<-O]at i';have HO:=qh i';have HS:=qh (λW (k:KIs W a g 5 x s S)=>ez .clh k i _ hp);have H:Kq (∀W s (S':List Sp),KIs W a g 5 x s S'->S'[i]? =some (⟨10,u,b,z⟩:Sp)->W.cell? x.l=some ↑a/\Z W x.l 1 (J x.t)/\Z W x.l 2 (slice (some ⟨x.q,0,none⟩) x.n x.cap)/\Z W x.q (i*4+1) (J u)):=qh (λW s S' k hp=>⟨k.ci.1,k.ci.2.1,k.ci.2.2,k.sp.cell hp 1 _ rfl⟩);have I:=qh hp;have Y:=qh (h.below ((Below.refl _ w).drew));clear i' h hp mb O;cases hd:(v==u)
  all_goals
    go_enter func449,ntmps449;go_wp2_with fail;first
    | (go_region_held3 (λW=>W.cell? x.l=some ↑a/\Z W x.l 1 (J x.t)/\Z W x.l 2 (slice (some ⟨x.q,0,none⟩) x.n x.cap)/\Z W x.q (i*4+1) (J u))
        (first|with_reducible exact H.o _ _ _ Y.o I.o|with_reducible exact H.o _ _ _ K2.o I.o|with_reducible exact H.o _ _ _ K3.o I.o)
        (first
          | (go_at_call 453;go_loud (refine(HS.o _ Y.o).mono ?_);unfold aF;rintro en w2 ⟨rfl,b2⟩;have K2:=qh (Y.o.below b2);have T2:=qh (((aa.refl [a,g,x.q] w).drew).trans (aa.of_below b2));clear b2)
          | (go_at_call 173;go_loud (refine Op (HO.o _ K2.o) λw3 a3=>?_);have K3:=qh (K2.o.op a3.o.2 a3.o.1);have T3:=qh (T2.o.trans (aM a3.o.2)))))
    | fail "held"
  all_goals go_wp2;go_ret;rw[pV,HX.o];first| exact⟨by rw[decide_eq_true ahR];rfl,K3.o,T3.o⟩| exact⟨by rw[decide_eq_false ahR];rfl,K3.o,T3.o⟩
end
end
section
open Go.RowKit
variable{P:Prop}
def ifV(k l:Nat):Value:=
 match k with
 |1=> .iface 289 (agg #[↑l])
 |2=> .iface 290 ↑l
 |3=> .iface 293 ↑l
 |4=> .iface 296 ↑l
 |_=> .iface 299 ↑l
structure dx(w:World)(a g k:Nat)(x:Fx)(s:Ar)(S:List Sp):Prop where
 p:Blk w x.p 303 #[int i64 (k:Int),ifV k x.l]
 ki:KIs w a g k x s S
 pa:x.p≠a
 pg:x.p≠g
 pq:x.p≠x.q
def KOk(k:Nat):Prop:=k=1\/k=2\/k=3\/k=4\/k=5
def KOk.of{k:Nat}(h:1<=k/\k<=5):KOk k:=by unfold KOk;omega
def KOk.le{k:Nat}(h:KOk k):1<=k/\k<=5:=by unfold KOk at h;omega
def pcK(k:Nat)(p:Sp):Prop:=
 if k=4 then iY p else if k=5 then p.pc=0\/p.pc=1\/p.pc=2\/p.pc=3\/p.pc=10\/p.pc=11 else p.pc=0\/p.pc=1\/p.pc=2\/p.pc=10\/p.pc=11
section
variable{w:World}{g k:Nat}{x:Fx}{s s':Ar}{S S':List Sp}{T:List Nat}
def dx.turns(h:dx w a g k x s S)(t:aa T w w')(H:x.p∉T)(h1:x.l∉T)(I:a∉T)(O:g∉T)(V:x.q∉T):dx w' a g k x s S:=
 {h with p:=t.blk h.p H,ki:=h.ki.turns t h1 I O V}
def dx.below(h:dx w a g k x s S)(t:Below w.heap.size w w'):dx w' a g k x s S:=
 h.turns (T:=[]) (aa.of_below t) ahC ahC ahC ahC ahC
def dx.to(h:dx w a g k x s S)(t:aa [a,g,x.q] w w')(H:KIs w' a g k x s' S'):dx w' a g k x s' S':=
 {h with p:=t.blk h.p (by simp[h.pa,h.pg,h.pq]),ki:=H}
def dx.oth(h:dx w a g k x s S)(t:aa T w w')(O:aB w' a g s')(H:x.p∉T)(h1:x.l∉T)(I:x.q∉T):dx w' a g k x s' S:=
 {h with p:=t.blk h.p H,ki:={h.ki with ar:=O,lk:=t.blk h.ki.lk h1,sp:=h.ki.sp.turns t I}}
def lD(h:dx w a g k x s S)(H:k≠0):E 244 #[↑x.p] w λe w'=>e= returned (bool true)/\w=w':=by
 have c0:w.cell? x.p=some (J (k:Int)):=h.p.cell 0;have u0:((k:Int) !=0)=true:=by simpa using H
 clear h;go_enter func244,ntmps244;exact aaa
def zO(h:KIs w a g 2 x s S)(C:k7 2 x s S B)(i:Nat)(p:Sp)(H:S[i]? =some p)(hc:pcK 2 p):E 418 #[↑x.l,J i] w (dG w a g 2 x s S i p):=by
  have hb:=C.sp H;have V:=C.ops;have hB:=C.B1;have Y:=C.B0;have O:=C.w.ld ahB x.t;have I:p.pc=0\/p.pc=1\/p.pc=2\/p.pc=10\/p.pc=11:=hc;obtain⟨pc,u,b,z⟩:=p;have a0:=hb.a0;have a1:=hb.a1;simp only at I a0 a1;rcases I with rfl|rfl|rfl|rfl|rfl
  . exact pG h i _ H (.inl rfl)
  . exact wS h i u b z H V C.inr O.1 ahB
  . exact wT h i u b z H V
  . exact pG h i _ H (.inr rfl)
  . exact uG h i u b z H V ahB ahB
def zN(h:KIs w a g 1 x s S)(C:k7 1 x s S B)(i:Nat)(p:Sp)(H:S[i]? =some p)(hc:pcK 1 p):E 410 #[↑x.l,J i] w (dG w a g 1 x s S i p):=by
  have hb:=C.sp H;have V:=C.ops;have O:=C.B1;have I:p.pc=0\/p.pc=1\/p.pc=2\/p.pc=10\/p.pc=11:=hc;obtain⟨pc,u,b,z⟩:=p;have a0:=hb.a0;have a1:=hb.a1;have b0:=hb.b0;have b1:=hb.b1;simp only at I a0 a1 b0 b1;rcases I with rfl|rfl|rfl|rfl|rfl
  . exact qG h i _ H (.inl rfl)
  . exact zL h i u b z H V a0 ahB
  . exact zM h i u b z H ahB ahB
  . exact qG h i _ H (.inr rfl)
  . exact wR h i u b z H V
def zK(h:KIs w a g 3 x s S)(C:k7 3 x s S B)(i:Nat)(p:Sp)(H:S[i]? =some p)(hc:pcK 3 p):E 430 #[↑x.l,J i] w (dG w a g 3 x s S i p):=by
  have hb:=C.sp H;have V:=C.ops;have hB:=C.B1;have Y:=C.B0;have O:=C.w.ld ahB x.t;have I:p.pc=0\/p.pc=1\/p.pc=2\/p.pc=10\/p.pc=11:=hc;obtain⟨pc,u,b,z⟩:=p;have a0:=hb.a0;have a1:=hb.a1;simp only at I a0 a1;rcases I with rfl|rfl|rfl|rfl|rfl
  . exact pF h i _ H (.inl rfl)
  . exact wP h i u b z H V C.inr O.1 ahB
  . exact wQ h i u b z H V ⟨a0,by omega⟩
  . exact pF h i _ H (.inr rfl)
  . exact uF h i u b z H V ⟨a0,by omega⟩
def C4(h:KIs w a g 5 x s S)(C:k7 5 x s S B)(i:Nat)(p:Sp)(H:S[i]? =some p)(hc:pcK 5 p):E 454 #[↑x.l,J i] w (dG w a g 5 x s S i p):=by
  have hb:=C.sp H;have V:=C.ops;have O:=C.B1;have I:p.pc=0\/p.pc=1\/p.pc=2\/p.pc=3\/p.pc=10\/p.pc=11:=hc;obtain⟨pc,u,b,z⟩:=p;have a0:=hb.a0;have a1:=hb.a1;have b1:=hb.b1;have b2:=hb.b2 ahD;simp only at I a0 a1 b1 b2;rcases I with rfl|rfl|rfl|rfl|rfl|rfl
  . exact qF h i _ H (.inl rfl)
  . exact zH h i u b z H V ⟨a0,by omega⟩
  . exact zI h i u b z H V ⟨a0,by omega⟩
  . exact zJ h i u b z H V ⟨b2,by omega⟩
  . exact qF h i _ H (.inr rfl)
  . exact wO h i u b z H V ⟨a0,by omega⟩
def su(h:KIs w a g 2 x s S)(i:Nat)(p:Sp)(H:S[i]? =some p):E 417 #[↑x.l,J i] w λe w'=>e= returned (aF p)/\Below w.heap.size w w':=by refine ai7 ?_;intro b1;have h1:=h.below b1;have I:=qh (ez .ticket h1 i p H);have HB:=qh b1;clear h h1 H b1;go_enter func417,ntmps417;go_wp2_with (go_at_call 419;refine(eD _ _).mono ?_;rintro e w' ⟨rfl,rfl⟩);go_wp2_with fail;refine Pi I.o λw2 b2=>?_;exact rU
def Ai(w:World)(a g k:Nat)(x:Fx)(s:Ar)(S:List Sp)(i:Nat)(p:Sp)(e:Ending)(w':World):Prop:=
 e= returned (bool (bv p (bN k x.t x.m s i p).2))/\dx w' a g k x (bN k x.t x.m s i p).1 (S.set i (bN k x.t x.m s i p).2)/\aa [a,g,x.q] w w'
def Fv(w:World)(a g k:Nat)(x:Fx)(s:Ar)(S:List Sp)(i:Nat)(p:Sp)(e:Ending)(w':World):Prop:=
 e= returned (bool (cD k x.t s i p).2)/\dx w' a g k x (cD k x.t s i p).1 S/\aa [a,g,x.q] w w'
def iP(h:P:=by
    unfold ifV at c1
    clear h hp
    first
      | go_enter func241,ntmps241
      | go_enter func248,ntmps248
      | go_enter func245,ntmps245
      | go_enter func247,ntmps247
    go_wp2_with fail
    refine HM.o.mono ?_
    rintro en w1 ⟨rfl,rfl⟩
    go_wp2_with fail
    refine H2.o.mono ?_
    rintro en w2 ⟨rfl,k2,t2⟩
    have H3:=qh (And.intro k2 t2)
    clear k2 t2
    go_wp2
    go_ret
    first
      | exact⟨rfl,H.o.to H3.o.2 H3.o.1,H3.o.2⟩
      | exact⟨rfl,H.o.to (aJ H3.o.2) H3.o.1,H3.o.2⟩):P:=h
def vD(h:dx w a g k x s S)(hk:KOk k)(i:Nat)(p:Sp)(hp:S[i]? =some p):E 241 #[↑x.p,J i] w λe w'=>e= returned (bool (decide (p.pc=0)))/\dx w' a g k x s (S.set i (askK k p))/\aa [x.q] w w':=by
  refine ajO ?_;intro HM c1 H;rcases hk with rfl|rfl|rfl|rfl|rfl
  . have H2:=qh (Ds h.ki i p hp);exact iP
  . have H2:=qh (uX h.ki i p hp);exact iP
  . have H2:=qh (uW .parted h.ki i p hp);exact iP
  . have H2:=qh (uW .mcs h.ki i p hp);exact iP
  . have H2:=qh (uW .clh h.ki i p hp);exact iP
def oK(h:dx w a g k x s S)(hk:KOk k)(i:Nat)(p:Sp)(hp:S[i]? =some p):E 248 #[↑x.p,J i] w λe w'=>e= returned (bool (decide (p.pc=10)))/\dx w' a g k x s (S.set i (ba p))/\aa [x.q] w w':=by
  refine ajO ?_;intro HM c1 H;rcases hk with rfl|rfl|rfl|rfl|rfl
  . have H2:=qh (yX h.ki i p hp);exact iP
  . have H2:=qh (rm h.ki i p hp);exact iP
  . have H2:=qh (oU .parted h.ki i p hp);exact iP
  . have H2:=qh (oU .mcs h.ki i p hp);exact iP
  . have H2:=qh (oU .clh h.ki i p hp);exact iP
def qZ(h:dx w a g k x s S)(hk:KOk k)(i:Nat)(p:Sp)(hp:S[i]? =some p)(C:k7 k x s S B)(hc:pcK k p):E 245 #[↑x.p,J i] w (Ai w a g k x s S i p):=by
  refine ajO ?_;intro HM c1 H;rcases hk with rfl|rfl|rfl|rfl|rfl
  . have H2:=qh (zN h.ki C i p hp hc);exact iP
  . have H2:=qh (zO h.ki C i p hp hc);exact iP
  . have H2:=qh (zK h.ki C i p hp hc);exact iP
  . have H2:=qh (C5 h.ki C i p hp hc);exact iP
  . have H2:=qh (C4 h.ki C i p hp hc);exact iP
def BI(h:dx w a g k x s S)(hk:KOk k)(i:Nat)(p:Sp)(hp:S[i]? =some p)(C:k7 k x s S B)(hc:p.pc=10):E 247 #[↑x.p,J i] w (Fv w a g k x s S i p):=by
  refine ajO ?_;intro HM c1 H;rcases hk with rfl|rfl|rfl|rfl|rfl
  . have H2:=qh (uU h.ki i p hp hc);exact iP
  . have H2:=qh (uV h.ki i p hp hc C.ops (by have:=(C.sp hp).a0;omega) (by have:=(C.sp hp).a1;have:=C.B1;omega));exact iP
  . have H2:=qh (qP h.ki i p hp hc C.ops ⟨(C.sp hp).a0,by have:=(C.sp hp).a1;have:=C.B1;omega⟩);exact iP
  . have H2:=qh (yj h.ki i p hp hc C.ops);exact iP
  . have H2:=qh (yi h.ki i p hp hc C.ops);exact iP
def BH(h:P:=by
    unfold ifV at c1
    clear h h1 hp b1
    go_enter func360,ntmps360
    go_wp2_with fail
    refine HM.o.mono ?_
    rintro en w1 ⟨rfl,rfl⟩
    go_wp2_with fail
    refine HS.o.mono ?_
    rintro en w2 ⟨rfl,b2⟩
    exact rU):P:=h
def xD(h:dx w a g k x s S)(hk:KOk k)(i:Nat)(p:Sp)(hp:S[i]? =some p):E 360 #[↑x.p,J i] w λe w'=>e= returned (aF p)/\Below w.heap.size w w':=by
  have H:=h.p.lt;refine ai7 ?_;intro b1;have h1:=h.below b1;have c1:(w.alloc (cells #[J 0,J 0,J 0,J 0] 113)).cell? ⟨x.p,1,none⟩=some (ifV k x.l):=h1.p.cell 1;have HM:=qh (lD h1 aic);have HB:=qh b1;rcases hk with rfl|rfl|rfl|rfl|rfl
  . have HS:=qh (ez .tas h1.ki i p hp);exact BH
  . have HS:=qh (su h1.ki i p hp);exact BH
  . have HS:=qh (ez .parted h1.ki i p hp);exact BH
  . have HS:=qh (ez .mcs h1.ki i p hp);exact BH
  . have HS:=qh (ez .clh h1.ki i p hp);exact BH
end
end
section
open Go
variable{p p' t q:Sp}{G':List Sp}
def dp(p q:Sp):Prop:=
 (p.pc=0/\q.pc=0)\/(p.pc=1/\0<q.pc/\q.pc<10)\/
  ((p.pc=2\/p.pc=3\/p.pc=4\/p.pc=10\/p.pc=11\/p.pc=12\/p.pc=13\/p.pc=14\/p.pc=15)/\q.pc=10)\/(p.pc=16/\10<q.pc)
def jb{k:Nat}{t:Int}{s:Ar}{i:Int}(h:1<=k/\k<=5)(hc:pcK k p):pcK k (bN k t m s i p).2/\(0<p.pc->p.pc<10->0<(bN k t m s i p).2.pc/\(bN k t m s i p).2.pc<=10)/\(10<p.pc->(bN k t m s i p).2.pc=0\/10<(bN k t m s i p).2.pc):=by
  unfold bN;split;. rename_i h1;subst h1;obtain⟨pc,u,b,z⟩:=p;simp only[pcK,iY,reduceIte,show ¬(1=4)by decide,show ¬(1=5)by decide]at hc ⊢;unfold wV;rcases hc with rfl|rfl|rfl|rfl|rfl<;>simp<;>split<;>simp<;>omega
  split;. rename_i h1;subst h1;obtain⟨pc,u,b,z⟩:=p;simp only[pcK,iY,reduceIte,show ¬(2=4)by decide,show ¬(2=5)by decide]at hc ⊢;unfold pK;rcases hc with rfl|rfl|rfl|rfl|rfl<;>simp<;>split<;>simp<;>omega
  split;. rename_i h1;subst h1;obtain⟨pc,u,b,z⟩:=p;simp only[pcK,iY,reduceIte,show ¬(3=4)by decide,show ¬(3=5)by decide]at hc ⊢;unfold pk;rcases hc with rfl|rfl|rfl|rfl|rfl<;>simp<;>split<;>simp<;>omega
  split
  . rename_i h1;subst h1;obtain⟨pc,u,b,z⟩:=p;simp only[pcK,iY,reduceIte]at hc ⊢;unfold mF;split;. unfold eQ;(repeat' split)<;>simp_all<;>omega
    split;. unfold dM;(repeat' split)<;>simp_all<;>omega
    . simp only;omega
  . obtain rfl:k=5:=by omega
    obtain⟨pc,u,b,z⟩:=p;simp only[pcK,iY,reduceIte,show ¬(5=4)by decide]at hc ⊢;unfold vm;rcases hc with rfl|rfl|rfl|rfl|rfl|rfl<;>simp<;>split<;>simp<;>omega
def qT(h:0<p.pc)(h1:p.pc<10)(H:0<p'.pc):bv p p'=decide (p'.pc=10):=by
 unfold bv;have:¬p.pc=0:=by omega
 have:¬p.pc=10:=by omega
 have:¬p'.pc=0:=by omega
 simp[*]
def nW(h:10<p.pc)(H:p'.pc=0\/10<p'.pc):bv p p'=decide (p'.pc=0):=by
 unfold bv;have:¬p.pc=0:=by omega
 have:¬p.pc=10:=by omega
 have:¬p'.pc=10:=by omega
 simp[*]
def m9{k:Nat}(h:p.pc=0):(askK k p).pc=1:=by unfold askK;rw[if_pos h];split<;>rfl
def mC(h:p.pc=10):(ba p).pc=11:=by unfold ba;rw[if_pos h]
def nQ{k:Nat}(hc:pcK k p):pcK k (askK k p):=by
 by_cases h:p.pc=0;.have e:=m9 (k:=k) h;unfold pcK iY;rw[e];exact aaN
 .unfold askK;rw[if_neg h];exact hc
def ju{k:Nat}(hc:pcK k p):pcK k (ba p):=by
 by_cases h:p.pc=10;.have e:=mC h;unfold pcK iY;rw[e];exact aaN
 .unfold ba;rw[if_neg h];exact hc
section
variable (c:CoC)(st:Co)(i:Nat)(u b z:Int)
def mv1:da c st i ⟨1,u,b,z⟩=((stL c st i).1,st.G,setL c st i (stL c st i).2,if mn c st i then⟨2,u,b,z⟩else⟨1,u,b,z⟩):=rfl
def mv2:da c st i ⟨2,u,b,z⟩=if 0<ldW st.s.W (c.cw (c.node i))then(af st.s (c.cw (c.node i)),st.G,st.L,⟨10,ldW st.s.W (c.cw (c.node i)),b,z⟩)
    else(af st.s (c.cw (c.node i)),st.G.set (c.node i) (askK c.kg (sv st.G (c.node i))),st.L,⟨3,ldW st.s.W (c.cw (c.node i)),b,z⟩):=rfl
def mv3:da c st i ⟨3,u,b,z⟩=((stG c st i).1,st.G.set (c.node i) (stG c st i).2,st.L,if nV c st i then⟨4,u,b,z⟩else⟨3,u,b,z⟩):=rfl
def mv4:da c st i ⟨4,u,b,z⟩=(ae st.s (c.cw (c.node i)) 1,st.G,st.L,⟨10,1,b,z⟩):=rfl
def Gm:da c st i ⟨11,u,b,z⟩=(af st.s (c.cw (c.node i)),st.G,st.L,⟨if c.bud<ldW st.s.W (c.cw (c.node i))then 14 else 12,ldW st.s.W (c.cw (c.node i)),b,z⟩):=rfl
def Gn:da c st i ⟨12,u,b,z⟩=((cD c.kl (c.tl (c.node i)) st.s (c.slot i) (lsp st.L (c.node i) (c.slot i))).1,st.G,st.L,
    ⟨if mW u c.bud (cD c.kl (c.tl (c.node i)) st.s (c.slot i) (lsp st.L (c.node i) (c.slot i))).2 then 13 else 14,u,b,z⟩):=rfl
def Gp:da c st i ⟨13,u,b,z⟩=(ae st.s (c.cw (c.node i)) (u+1),st.G,setL c st i (ba (lsp st.L (c.node i) (c.slot i))),⟨16,u,b,z⟩):=rfl
def Gq:da c st i ⟨14,u,b,z⟩=(ae st.s (c.cw (c.node i)) 0,st.G.set (c.node i) (ba (sv st.G (c.node i))),st.L,⟨15,u,b,z⟩):=rfl
def Gr:da c st i ⟨15,u,b,z⟩=if nV c st i then((stG c st i).1,st.G.set (c.node i) (stG c st i).2,setL c st i (ba (lsp st.L (c.node i) (c.slot i))),⟨16,u,b,z⟩)
    else((stG c st i).1,st.G.set (c.node i) (stG c st i).2,st.L,⟨15,u,b,z⟩):=rfl
def Gs:da c st i ⟨16,u,b,z⟩=((stL c st i).1,st.G,setL c st i (stL c st i).2,if mn c st i then⟨0,u,b,z⟩else⟨16,u,b,z⟩):=rfl
end
structure CoV(c:CoC)(n:Nat)(st:Co):Prop where
 g:∀p∈st.G,pcK c.kg p
 l:∀x∈st.L,∀p∈x,pcK c.kl p
 k:∀i,i<n->dp (sv st.T i) (lsp st.L (c.node i) (c.slot i))
 lT:n<=st.T.length
 lG:∀i,i<n->c.node i<st.G.length
 lL:∀i,i<n->c.node i<st.L.length/\c.slot i<(st.L.getD (c.node i) []).length
def Inj(c:CoC)(n:Nat):Prop:=∀i j,i<n->j<n->c.node i=c.node j->c.slot i=c.slot j->i=j
def tJ{L:List (List Sp)}{i:Nat}(I:n<L.length)(hi:i<(L.getD n []).length)(m j:Nat):lsp (jQ L n i p) m j=if n=m/\i=j then p else lsp L m j:=by
 unfold lsp jQ;rw[List.getD_eq_getElem?_getD (l:=L.set _ _),List.getElem?_set];by_cases h1:n=m
 .subst h1;rw[if_pos rfl,if_pos I];show(List.set _ _ _).getD _ _=_;rw[List.getD_eq_getElem?_getD,List.getElem?_set];by_cases H:i=j;.subst H;rw[if_pos rfl,if_pos hi,if_pos ⟨rfl,rfl⟩];rfl
  .rw[if_neg H,if_neg (λh=>H h.2),List.getD_eq_getElem?_getD (l:=L.getD n [])]
 .rw[if_neg h1,if_neg (λh=>h1 h.1),List.getD_eq_getElem?_getD (l:=L)]
def oX(L:List (List Sp))(n i:Nat)(p:Sp)(m:Nat):((jQ L n i p).getD m []).length=(L.getD m []).length/\(jQ L n i p).length=L.length:=by
 refine⟨?_,by unfold jQ;simp⟩;unfold jQ;rw[List.getD_eq_getElem?_getD,List.getElem?_set];by_cases h1:n=m
 .subst h1;rw[if_pos rfl];split;.simp
  .rename_i h;rw[List.getD_eq_getElem?_getD,List.getElem?_eq_none ahB]
 .rw[if_neg h1,List.getD_eq_getElem?_getD]
section
variable{c:CoC}{st:Co}
def CoV.lpc(h:CoV c n st){i:Nat}(hi:i<n):pcK c.kl (lsp st.L (c.node i) (c.slot i)):=by
 obtain⟨h1,H⟩:=h.lL i hi;have I:st.L.getD (c.node i) []∈st.L:=by exact aaO
 have O:lsp st.L (c.node i) (c.slot i)∈st.L.getD (c.node i) []:=by unfold lsp;rw[List.getD_eq_getElem?_getD (l:=st.L.getD _ _),List.getElem?_eq_getElem H];exact List.getElem_mem H
 exact h.l _ I _ O
def CoV.gpc(h:CoV c n st){i:Nat}(hi:i<n):pcK c.kg (sv st.G (c.node i)):=by have h1:=h.lG i hi;refine h.g _ ?_;unfold sv;exact aaO
def CoV.thr(h:CoV c n st)(O:Inj c n){i:Nat}(hi:i<n)(hl:dp t q)(j:Nat)(I:j<n)(H:List (List Sp))(Y:lsp H (c.node i) (c.slot i)=q)(V:∀m s,¬(c.node i=m/\c.slot i=s)->lsp H m s=lsp st.L m s):dp (sv (st.T.set i t) j) (lsp H (c.node j) (c.slot j)):=by
  rw[be];by_cases e:i=j;. subst e;rw[if_pos ⟨rfl,by have:=h.lT;omega⟩,Y];exact hl
  . rw[if_neg (λk=>e k.1),V _ _ (λk=>e (O i j hi I k.1 k.2))];exact h.k j I
def CoV.upd(h:CoV c n st)(Y:Inj c n){i:Nat}(hi:i<n)(s':Ar)(V:∀p∈G',pcK c.kg p)(O:G'.length=st.G.length)(hq:pcK c.kl q)(hl:dp t q):CoV c n ⟨s',G',setL c st i q,st.T.set i t⟩:=by
 obtain⟨h1,I⟩:=h.lL i hi;refine⟨V,?_,λj H=>h.thr Y hi hl j H _ ?_ ?_,by simpa using h.lT,λj H=>by rw[O];exact h.lG j H,λj H=>?_⟩;.exact eB h.l _ (eB (h.l _ (by rw[List.getD_eq_getElem?_getD,List.getElem?_eq_getElem h1];exact List.getElem_mem h1)) _ hq)
 .unfold setL;rw[tJ h1 I,if_pos ⟨rfl,rfl⟩]
 .intro m s hn;unfold setL;rw[tJ h1 I,if_neg hn]
 .unfold setL;rw[(oX _ _ _ _ _).1,(oX _ _ _ _ 0).2];exact h.lL j H
def CoV.upd0(h:CoV c n st)(V:Inj c n){i:Nat}(hi:i<n)(s':Ar)(O:∀p∈G',pcK c.kg p)(I:G'.length=st.G.length)(Y:dp t (lsp st.L (c.node i) (c.slot i))):CoV c n ⟨s',G',st.L,st.T.set i t⟩:=
 ⟨O,h.l,λj H=>h.thr V hi Y j H _ rfl (λ_ _ _=>rfl),by simpa using h.lT,λj H=>by rw[I];exact h.lG j H,h.lL⟩
theorem sR(h:CoV c n st)(hI:Inj c n)(hk:(1<=c.kg/\c.kg<=5)/\1<=c.kl/\c.kl<=5){i:Nat}(hi:i<n):CoV c n (ak c st i):=by
 have H:=h.k i hi;have I:=h.lpc hi;have hg:=h.gpc hi;have sL:=jb (t:=c.tl (c.node i)) (m:=c.m) (s:=st.s) (i:=(c.slot i:Int)) hk.2 I;have sG:=jb (t:=c.tg) (m:=c.m) (s:=st.s) (i:=(c.node i:Int)) hk.1 hg;have O:∀q:Sp,(st.G.set (c.node i) q).length=st.G.length:=λq=>by simp
 have V:∀q:Sp,pcK c.kg q->∀p∈st.G.set (c.node i) q,pcK c.kg p:=λq I=>eB h.g _ I;unfold ak;split;.exact h
 rename_i ad;obtain⟨p,hp⟩:=LE (sv st.T i);rw[<-hp]at H ad ⊢;obtain⟨q,al⟩:=LE (lsp st.L (c.node i) (c.slot i));have hc:p.pc=1\/p.pc=2\/p.pc=3\/p.pc=4\/p.pc=11\/p.pc=12\/p.pc=13\/p.pc=14\/p.pc=15\/p.pc=16:=by unfold dp at H;omega
 obtain⟨pc,u,b,z⟩:=p;simp only at hc;have Mc:pc≠0->pc≠1->pc≠16->(lsp st.L (c.node i) (c.slot i)).pc=10:=λa0 a1 a2=>by unfold dp at H;simp only at H;omega
 have lk:∀t:Sp,(t.pc=2\/t.pc=3\/t.pc=4\/t.pc=10\/t.pc=11\/t.pc=12\/t.pc=13\/t.pc=14\/t.pc=15)->∀q:Sp,q.pc=10->dp t q:=λt Y q I=> .inr (.inr (.inl ⟨Y,I⟩))
 have ab:∀t:Sp,t.pc=16->dp t (ba (lsp st.L (c.node i) (c.slot i)))\/(lsp st.L (c.node i) (c.slot i)).pc≠10:=λt Y=>by
  by_cases e:(lsp st.L (c.node i) (c.slot i)).pc=10;.left;exact .inr (.inr (.inr ⟨Y,by rw[mC e];decide⟩))
  .right;exact e
 have Xo:∀t:Sp,t.pc=16->(lsp st.L (c.node i) (c.slot i)).pc=10->dp t (ba (lsp st.L (c.node i) (c.slot i))):=λt Y e=>(ab t Y).resolve_right (λk=>k e);rcases hc with rfl|rfl|rfl|rfl|rfl|rfl|rfl|rfl|rfl|rfl
 .have hb:0<(lsp st.L (c.node i) (c.slot i)).pc/\(lsp st.L (c.node i) (c.slot i)).pc<10:=by unfold dp at H;simp only at H;omega
  have s2:=sL.2.1 hb.1 hb.2;have ec:mn c st i=decide ((stL c st i).2.pc=10):=qT hb.1 hb.2 s2.1;rw[mv1];refine h.upd hI hi _ h.g rfl sL.1 ?_;show dp (if mn c st i then _ else _) _;rw[ec];split;.rename_i e;exact lk _ (.inl rfl) _ ahQ
  .rename_i e;refine .inr (.inl ⟨rfl,s2.1,?_⟩);have:¬(stL c st i).2.pc=10:=(by simpa using e);have:=s2.2;show(stL c st i).2.pc<10;unfold stL at *;omega
 .rw[mv2];split;.exact aaP
  .exact h.upd0 hI hi _ (V _ (nQ hg)) (O _) (lk _ ahC _ (Mc ahD ahD ahD))
 .rw[mv3];refine h.upd0 hI hi _ (V _ sG.1) (O _) ?_;show dp (if nV c st i then _ else _) _;split<;>exact lk _ ahC _ (Mc ahD ahD ahD)
 .rw[mv4];exact aaP
 .rw[Gm];exact aaQ
 .rw[Gn];exact aaQ
 .rw[Gp];exact h.upd hI hi _ h.g rfl (ju I) (Xo _ rfl (Mc ahD ahD ahD))
 .rw[Gq];exact h.upd0 hI hi _ (V _ (ju hg)) (O _) (lk _ ahC _ (Mc ahD ahD ahD))
 .rw[Gr];split;.exact h.upd hI hi _ (V _ sG.1) (O _) (ju I) (Xo _ rfl (Mc ahD ahD ahD))
  .exact h.upd0 hI hi _ (V _ sG.1) (O _) (lk _ ahC _ (Mc ahD ahD ahD))
 .have hb:10<(lsp st.L (c.node i) (c.slot i)).pc:=by unfold dp at H;simp only at H;omega
  have s2:=sL.2.2 hb;have ec:mn c st i=decide ((stL c st i).2.pc=0):=nW hb s2;rw[Gs];refine h.upd hI hi _ h.g rfl sL.1 ?_;show dp (if mn c st i then _ else _) _;rw[ec];split;.rename_i e;exact .inl ⟨rfl,by simpa using e⟩
  .rename_i e;refine .inr (.inr (.inr ⟨rfl,?_⟩));have:¬(stL c st i).2.pc=0:=(by simpa using e);show 10<(stL c st i).2.pc;unfold stL at *;omega
def xv(h:CoV c n st)(O:Inj c n){i:Nat}(hi:i<n):CoV c n (bC c st i):=by
 unfold bC;split
 .rename_i e;have I:=h.k i hi;have H:(lsp st.L (c.node i) (c.slot i)).pc=0:=by unfold dp at I;omega
  exact h.upd O hi _ h.g rfl (nQ (h.lpc hi)) (.inr (.inl ⟨rfl,by rw[m9 H];decide,by rw[m9 H];decide⟩))
 .exact h
def qf(h:CoV c n st)(I:Inj c n){i:Nat}(hi:i<n):CoV c n (aA st i):=by
 unfold aA;split;.rename_i e;have H:=h.k i hi;exact h.upd0 I hi _ h.g rfl (.inr (.inr (.inl ⟨by simp,by unfold dp at H;omega⟩)))
 .exact h
end
end
section
open Go
def eO(s s':Ar):Prop:=s'.ops<=s.ops+1/\s'.W.length=s.W.length
def eO.refl(s:Ar):eO s s:=⟨by omega,rfl⟩
def gw(s:Ar)(x:Int):eO s (af s x):=⟨iW _ _,by rw[aQ]⟩
def i1(s:Ar)(x v:Int):eO s (ae s x v):=⟨ij _ _ _,by rw[ay,bM]⟩
def CE(s:Ar)(x v:Int):eO s (cr s x v):=⟨fg _ _ _,by rw[dP,bM]⟩
def lE(s:Ar)(x v:Int):eO s (addA s x v):=⟨jF _ _ _,by rw[d9,bM]⟩
def Ex(s:Ar)(x o v:Int):eO s (dX s x o v):=⟨nX _ _ _ _,by rw[gW];split<;>simp[bM]⟩
def db(k:Nat)(t m:Int)(s:Ar)(i:Int)(p:Sp):eO s (bN k t m s i p).1:=by unfold bN wV pK pk mF eQ dM vm;(repeat' split)<;>(try dsimp only)<;>first|with_reducible exact eO.refl _|with_reducible exact gw _ _|with_reducible exact i1 _ _ _|with_reducible exact CE _ _ _|with_reducible exact lE _ _ _|with_reducible exact Ex _ _ _ _
def ue(k:Nat)(t:Int)(s:Ar)(i:Int)(p:Sp):eO s (cD k t s i p).1:=by unfold cD;(repeat' split)<;>(try dsimp only)<;>first|with_reducible exact eO.refl _|with_reducible exact gw _ _
section
variable{c:CoC}{st:Co}
def zm(i:Nat)(p:Sp):eO st.s (da c st i p).1:=by unfold da yK qj stL stG;(repeat' split)<;>(try dsimp only)<;>first|with_reducible exact eO.refl _|with_reducible exact gw _ _|with_reducible exact i1 _ _ _|with_reducible exact db _ _ _ _ _ _|with_reducible exact ue _ _ _ _ _
def mU(i:Nat):eO st.s (ak c st i).s:=by
 unfold ak;split;.exact eO.refl _
 .exact zm _ _
def wh(i:Nat):eO st.s (bC c st i).s:=by unfold bC;split<;>exact eO.refl _
def rF(i:Nat):eO st.s (aA st i).s:=by unfold aA;split<;>exact eO.refl _
def yM(h:CoB c B st)(I:1<=B)(H:B<=10000000000000)(i:Nat)(hs:(c.slot i:Int)+1<=B)(O:(c.node i:Int)+1<=B)(hm:1<=c.m/\c.m<=B):CoB c (B+2) (ak c st i):=by
 unfold ak;split;.exact h.mono ahB
 .exact DE h I H i hs O hm _ (h.tsp ahB i)
def AY(h:CoB c B st)(I:1<=B)(i:Nat):CoB c (B+2) (bC c st i):=by
 unfold bC;split;.have H:=h.mono (C:=B+2) ahB;exact⟨H.w,H.g,H.setL _ _ (uY (H.lsp ahB _ _) ahB),eB H.t i (H.tsp ahB i)⟩
 .exact h.mono ahB
def vo(h:CoB c B st)(I:1<=B)(i:Nat):CoB c (B+2) (aA st i):=by
 unfold aA;split;.have H:=h.mono (C:=B+2) ahB;exact⟨H.w,H.g,H.l,eB H.t i (H.tsp ahB i)⟩
 .exact h.mono ahB
end
end
section
open Go
section
variable{σ σ':Nat->Sp}
def gG(t:Int)(n:Nat)(f:Int->Int)(σ:Nat->Sp):Prop:=∀i,i<n->(σ i).pc=10\/(σ i).pc=11->f t=(i:Int)+1
def gG.one(h:gG t n f σ){i:Nat}(hi:i<n)(I:j<n)(h1:(σ i).pc=10)(H:(σ j).pc=10):i=j:=by have O:=h i hi (.inl h1);have V:=h j I (.inl H);omega
def gG.off(h:gG t n f σ){i:Nat}{p:Sp}(hs:∀j,σ' j=if j=i then p else σ j)(I:(p.pc=10\/p.pc=11)->(σ i).pc=10\/(σ i).pc=11):gG t n f σ':=by
 intro j H hc;rw[hs]at hc;split at hc;.rename_i e;subst e;exact h j H (I hc)
 .exact h j H hc
def gG.get(h:gG t n f σ){i:Nat}{p:Sp}(hs:∀j,σ' j=if j=i then p else σ j)(H:∀y,f' y=if y=t then(i:Int)+1 else f y)(O:f t=0):gG t n f' σ':=by
 intro j I hc;rw[hs]at hc;rw[H,if_pos rfl];split at hc;.rename_i e;subst e;rfl
 .have:=h j I hc;omega
def gG.put(h:gG t n f σ){i:Nat}{p:Sp}(hi:i<n)(hs:∀j,σ' j=if j=i then p else σ j)(Y:∀y,f' y=if y=t then 0 else f y)(H:(σ i).pc=11)(hp:p.pc=0):gG t n f' σ':=by
 intro j I hc;rw[hs]at hc;split at hc;.omega
 .rename_i e;have O:=h j I hc;have V:=h i hi (.inr H);omega
structure dH(t:Int)(n:Nat)(f:Int->Int)(σ:Nat->Sp):Prop where
 le:f (t+1)<=f t
 w:∀i,i<n->(σ i).pc=2->f (t+1)<=(σ i).a/\(σ i).a<f t
 hd:∀i,i<n->(σ i).pc=10\/(σ i).pc=11->(σ i).a=f (t+1)/\(σ i).a<f t
 ne:∀i j,i<n->j<n->i≠j->((σ i).pc=2\/(σ i).pc=10\/(σ i).pc=11)->((σ j).pc=2\/(σ j).pc=10\/(σ j).pc=11)->(σ i).a≠(σ j).a
def dH.one(h:dH t n f σ){i:Nat}(hi:i<n)(hj:j<n)(h1:(σ i).pc=10)(h2:(σ j).pc=10):i=j:=by exact aaR
def dH.off(h:dH t n f σ){i:Nat}{p:Sp}(hs:∀j,σ' j=if j=i then p else σ j)(ha:p.a=(σ i).a)(H:((σ i).pc=0/\p.pc=1)\/((σ i).pc=10/\p.pc=11)\/p.pc=(σ i).pc):dH t n f σ':=by
 refine aj4 ?_;intro KO
 have kc:∀j,((σ' j).pc=2->(σ j).pc=2)/\(((σ' j).pc=10\/(σ' j).pc=11)->(σ j).pc=10\/(σ j).pc=11):=λj=>by
  rw[hs];split;.rename_i e;subst e;omega
  .exact⟨id,id⟩
 refine⟨h.le,λj hj hc=>?_,λj hj hc=>?_,λj k hj hk hn h1 h2=>?_⟩;.rw[KO];exact h.w j hj ((kc j).1 hc)
 .rw[KO];exact h.hd j hj ((kc j).2 hc)
 .exact aaS
def dH.take(h:dH t n f σ){i:Nat}{p:Sp}(hs:∀j,σ' j=if j=i then p else σ j)(O:p.pc=2)(ha:p.a=f t)(H:∀y,f' y=if y=t then f t+1 else f y):dH t n f' σ':=by
 have f0:f' t=f t+1:=by rw[H,if_pos rfl]
 have f1:f' (t+1)=f (t+1):=by rw[H,if_neg ahB]
 have I:=h.le;refine⟨by rw[f0,f1];omega,λj hj hc=>?_,λj hj hc=>?_,λj k hj hk hn h1 h2=>?_⟩;.rw[f0,f1];exact aaT
 .rw[f0,f1];exact aaU
 .exact aaV
def dH.enter(h:dH t n f σ){i:Nat}{p:Sp}(hi:i<n)(hs:∀j,σ' j=if j=i then p else σ j)(h2:(σ i).pc=2)(I:p.pc=10)(ha:p.a=(σ i).a)(H:f (t+1)=(σ i).a):dH t n f σ':=by
 have hw:=h.w i hi h2;refine aj4 ?_;intro KO;refine⟨h.le,λj hj hc=>?_,λj hj hc=>?_,λj k hj hk hn h1 h3=>?_⟩
 .rw[KO];rw[hs]at hc;split at hc;.omega
  .exact h.w j hj hc
 .exact aaW
 .exact aaX
def dH.put(h:dH t n f σ){i:Nat}{p:Sp}(hi:i<n)(hs:∀j,σ' j=if j=i then p else σ j)(h1:(σ i).pc=11)(O:p.pc=0)(H:∀y,f' y=if y=t+1 then(σ i).a+1 else f y):dH t n f' σ':=by
 have I:=h.hd i hi (.inr h1);have f0:f' t=f t:=by rw[H,if_neg ahB]
 have f1:f' (t+1)=(σ i).a+1:=by rw[H,if_pos rfl]
 refine⟨by rw[f0,f1];omega,λj hj hc=>?_,λj hj hc=>?_,λj k hj hk hn h2 h3=>?_⟩;.rw[f0,f1];exact aaY
 .exact aaZ
 .exact aa0
structure dZ(t m:Int)(n:Nat)(f:Int->Int)(σ:Nat->Sp)(v:Int):Prop where
 v0:0<=v
 le:v<=f t
 w:∀i,i<n->(σ i).pc=2->v<=(σ i).a/\(σ i).a<f t
 hd:∀i,i<n->(σ i).pc=10\/(σ i).pc=11->(σ i).a=v/\(σ i).a<f t
 ne:∀i j,i<n->j<n->i≠j->((σ i).pc=2\/(σ i).pc=10\/(σ i).pc=11)->((σ j).pc=2\/(σ j).pc=10\/(σ j).pc=11)->(σ i).a≠(σ j).a
 pl:∀k:Int,0<=k->k<m->f (t+1+k)<=v+1
 sv:f (pPl t m v)=v+1
def dZ.one(h:dZ t m n f σ v){i:Nat}(hi:i<n)(hj:j<n)(h1:(σ i).pc=10)(h2:(σ j).pc=10):i=j:=by exact aaR
def dZ.off(h:dZ t m n f σ v){i:Nat}{p:Sp}(hs:∀j,σ' j=if j=i then p else σ j)(ha:p.a=(σ i).a)(H:((σ i).pc=0/\p.pc=1)\/((σ i).pc=10/\p.pc=11)\/p.pc=(σ i).pc):dZ t m n f σ' v:=by
 refine aj4 ?_;intro KO
 have kc:∀j,((σ' j).pc=2->(σ j).pc=2)/\(((σ' j).pc=10\/(σ' j).pc=11)->(σ j).pc=10\/(σ j).pc=11):=λj=>by
  rw[hs];split;.rename_i e;subst e;omega
  .exact⟨id,id⟩
 refine⟨h.v0,h.le,λj hj hc=>?_,λj hj hc=>?_,λj k hj hk hn h1 h2=>?_,h.pl,h.sv⟩;.rw[KO];exact h.w j hj ((kc j).1 hc)
 .rw[KO];exact h.hd j hj ((kc j).2 hc)
 .exact aaS
def dZ.take(h:dZ t m n f σ v)(hm:1<=m){i:Nat}{p:Sp}(hs:∀j,σ' j=if j=i then p else σ j)(V:p.pc=2)(ha:p.a=f t)(H:∀y,f' y=if y=t then f t+1 else f y):dZ t m n f' σ' v:=by
 have f0:f' t=f t+1:=by rw[H,if_pos rfl]
 have O:=h.le;have hm0:=Int.emod_nonneg v (show m≠0 by omega);refine⟨h.v0,by rw[f0];omega,λj hj hc=>?_,λj hj hc=>?_,λj k hj hk hn h1 h2=>?_,λk k0 I=>by rw[H,if_neg ahB];exact h.pl k k0 I,by rw[H,if_neg (by unfold pPl;omega)];exact h.sv⟩;.rw[f0];exact aaT
 .rw[f0];exact aaU
 .exact aaV
def dZ.enter(h:dZ t m n f σ v)(hm:1<=m){i:Nat}{p:Sp}(hi:i<n)(hs:∀j,σ' j=if j=i then p else σ j)(h2:(σ i).pc=2)(O:p.pc=10)(ha:p.a=(σ i).a)(H:f (pPl t m (σ i).a)=(σ i).a+1):dZ t m n f σ' v:=by
 have hw:=h.w i hi h2;have V:=h.pl ((σ i).a%m) (Int.emod_nonneg _ ahB) (Int.emod_lt_of_pos _ ahB);have I:f (t+1+(σ i).a%m)=(σ i).a+1:=H;refine aj4 ?_;intro KO;refine⟨h.v0,h.le,λj hj hc=>?_,λj hj hc=>?_,λj k hj hk hn h1 h3=>?_,h.pl,h.sv⟩
 .rw[KO];rw[hs]at hc;split at hc;.omega
  .exact h.w j hj hc
 .exact aaW
 .exact aaX
def dZ.put(h:dZ t m n f σ v)(hm:1<=m){i:Nat}{p:Sp}(hi:i<n)(hs:∀j,σ' j=if j=i then p else σ j)(h1:(σ i).pc=11)(Y:p.pc=0)(H:∀y,f' y=if y=pPl t m ((σ i).a+1)then(σ i).a+2 else f y):dZ t m n f' σ' (v+1):=by
 have I:=h.hd i hi (.inr h1);have hm0:=Int.emod_nonneg ((σ i).a+1) (show m≠0 by omega);have f0:f' t=f t:=by rw[H,if_neg (by unfold pPl;omega)]
 have V:=h.v0;refine⟨by omega,by rw[f0];omega,λj hj hc=>?_,λj hj hc=>?_,λj k hj hk hn h2 h3=>?_,λk k0 O=>?_,?_⟩;.rw[f0];exact aaY
 .exact aaZ
 .exact aa0
 .rw[H];split;.omega
  .have:=h.pl k k0 O;omega
 .rw[H,if_pos (by rw[I.1]),I.1];omega
end
end
section
open Go
def szI(k n:Nat)(m:Int):Int:=if k=1 then 1 else if k=2 then 2 else if k=3 then 1+m else if k=4 then 1+2*(n:Int)else(n:Int)+2
def sm(k:Nat)(t m:Int)(n:Nat)(f:Int->Int)(σ:Nat->Sp):Prop:=
 if k=1 then gG t n f σ else if k=2 then dH t n f σ else if k=3 then ∃v,dZ t m n f σ v else if k=4 then McA n (f t) (fN t n f) (fW t n f) σ else ∃e,ClA n (f t) (fC t n f) σ e
structure cy(k:Nat)(t m:Int)(n:Nat)(W:List Int)(S:List Sp):Prop where
 len:S.length=n
 m1:1<=m
 t1:1<=t
 t2:t+szI k n m<=(W.length:Int)+1
 i:sm k t m n (ldW W) (sv S)
section
variable{k:Nat}{σ:Nat->Sp}
def xS(t:Int)(hm:1<=m)(v:Int):t<pPl t m v/\pPl t m v<t+1+m:=by have h1:=Int.emod_nonneg v (show m≠0 by omega);have h:=Int.emod_lt_of_pos v (show 0<m by omega);unfold pPl;omega
def sm.congr(h:sm k t m n f σ)(hm:1<=m)(H:∀y,t<=y->y<t+szI k n m->f' y=f y):sm k t m n f' σ:=by
 unfold sm at h ⊢;unfold szI at H;by_cases h1:k=1;.simp only[h1,reduceIte]at h H ⊢;intro i hi hc;rw[H t ahB ahB];exact h i hi hc
 by_cases O:k=2;.simp only[O,reduceIte,show ¬(2=1)by decide]at h H ⊢;have e0:=H t ahB ahB;have I:=H (t+1) ahB ahB;exact⟨by rw[e0,I];exact h.le,λi hi hc=>by rw[e0,I];exact h.w i hi hc,λi hi hc=>by rw[e0,I];exact h.hd i hi hc,h.ne⟩
 by_cases V:k=3;.simp only[V,reduceIte,show ¬(3=1)by decide,show ¬(3=2)by decide]at h H ⊢;obtain⟨v,h⟩:=h;have e0:=H t ahB ahB;have ep:=xS t hm v;exact⟨v,h.v0,by rw[e0];exact h.le,λi hi hc=>by rw[e0];exact h.w i hi hc,λi hi hc=>by rw[e0];exact h.hd i hi hc,h.ne,λk k0 k1=>by rw[H _ ahB ahB];exact h.pl k k0 k1,by rw[H _ ahB ahB];exact h.sv⟩
 by_cases Y:k=4;.simp only[Y,reduceIte,show ¬(4=1)by decide,show ¬(4=2)by decide,show ¬(4=3)by decide]at h H ⊢;have e:=Bw H;rw[H t ahB ahB,e.1,e.2];exact h
 .simp only[h1,O,V,Y,reduceIte]at h H ⊢;obtain⟨e,h⟩:=h;exact⟨e,by rw[H t ahB ahB,Bv H];exact h⟩
def cy.frame{H:List Int}{S:List Sp}(h:cy k t m n W S)(O:H.length=W.length)(I:∀y,t<=y->y<t+szI k n m->ldW H y=ldW W y):cy k t m n H S:=
 ⟨h.len,h.m1,h.t1,by rw[O];exact h.t2,h.i.congr h.m1 I⟩
def cy.one{S:List Sp}(h:cy k t m n W S)(Y:1<=k/\k<=5){i:Nat}(hi:i<n)(H:j<n)(h1:(sv S i).pc=10)(I:(sv S j).pc=10):i=j:=by
 have V:k=1\/k=2\/k=3\/k=4\/k=5:=by omega
 rcases V with rfl|rfl|rfl|rfl|rfl
 .exact gG.one (show gG t n (ldW W) (sv S)from h.i) hi H h1 I
 .exact dH.one (show dH t n (ldW W) (sv S)from h.i) hi H h1 I
 .obtain⟨v,O⟩:∃v,dZ t m n (ldW W) (sv S) v:=h.i;exact O.one hi H h1 I
 .exact(show McA n _ _ _ (sv S)from h.i).tk.one i j hi H (.inl ahB) (.inl ahB)
 .obtain⟨e,O⟩:∃e,ClA n (ldW W t) (fC t n (ldW W)) (sv S) e:=h.i;exact O.one hi H h1 I
def svS{S:List Sp}{i:Nat}(hi:i<S.length)(p:Sp)(j:Nat):sv (S.set i p) j=if j=i then p else sv S j:=by
 rw[be];by_cases e:i=j;.subst e;rw[if_pos ⟨rfl,hi⟩,if_pos rfl]
 .rw[if_neg (λh=>e h.1),if_neg (λh=>e h.symm)]
def Fp{S:List Sp}(h:cy k t m n W S){i:Nat}(hi:i<n):sv (S.set i (sv S i))=sv S:=by
 funext j;rw[svS (by rw[h.len];exact hi)];split;.rename_i e3;rw[e3]
 .rfl
def cy.ask{S:List Sp}(h:cy k t m n W S)(Y:1<=k/\k<=5){i:Nat}(hi:i<n):cy k t m n W (S.set i (askK k (sv S i))):=by
 refine⟨by rw[List.length_set];exact h.len,h.m1,h.t1,h.t2,?_⟩;by_cases O:(sv S i).pc=0
 .have hs:=svS (S:=S) (i:=i) (by rw[h.len];exact hi) (askK k (sv S i));have H:askK k (sv S i)=if k=1 then {(sv S i)with pc:=1,a:=1} else {(sv S i)with pc:=1}:=by unfold askK;rw[if_pos O]
  have V:k=1\/k=2\/k=3\/k=4\/k=5:=by omega
  rcases V with rfl|rfl|rfl|rfl|rfl
  .have I:gG t n (ldW W) (sv S):=h.i;exact gG.off I hs (by rw[H];simp)
  .have I:dH t n (ldW W) (sv S):=h.i;exact dH.off I hs (by rw[H];rfl) (.inl ⟨O,by rw[H];rfl⟩)
  .obtain⟨v,I⟩:∃v,dZ t m n (ldW W) (sv S) v:=h.i;exact⟨v,I.off hs (by rw[H];rfl) (.inl ⟨O,by rw[H];rfl⟩)⟩
  .exact McA.beg (show McA n _ _ _ (sv S)from h.i) hi hs (.inr ⟨O,by rw[H];rfl⟩)
  .obtain⟨e,I⟩:∃e,ClA n (ldW W t) (fC t n (ldW W)) (sv S) e:=h.i;exact⟨e,I.put hi hs (by rw[H];rfl) (λ_ _=>rfl) (λhc=>by rw[H]at hc;simp at hc) (.inl ⟨by omega,by rw[H];show(1:Int)<3;decide⟩)⟩
 .have e:askK k (sv S i)=sv S i:=by unfold askK;rw[if_neg O]
  rw[e,Fp h hi];exact h.i
def cy.leave{S:List Sp}(h:cy k t m n W S)(Y:1<=k/\k<=5){i:Nat}(hi:i<n):cy k t m n W (S.set i (ba (sv S i))):=by
 refine⟨by rw[List.length_set];exact h.len,h.m1,h.t1,h.t2,?_⟩;by_cases O:(sv S i).pc=10
 .have hs:=svS (S:=S) (i:=i) (by rw[h.len];exact hi) (ba (sv S i));have I:ba (sv S i)={(sv S i)with pc:=11}:=by unfold ba;rw[if_pos O]
  have V:k=1\/k=2\/k=3\/k=4\/k=5:=by omega
  rcases V with rfl|rfl|rfl|rfl|rfl
  .have H:gG t n (ldW W) (sv S):=h.i;exact gG.off H hs (by rw[I];intro _;exact .inl O)
  .have H:dH t n (ldW W) (sv S):=h.i;exact dH.off H hs (by rw[I]) (.inr (.inl ⟨O,by rw[I]⟩))
  .obtain⟨v,H⟩:∃v,dZ t m n (ldW W) (sv S) v:=h.i;exact⟨v,H.off hs (by rw[I]) (.inr (.inl ⟨O,by rw[I]⟩))⟩
  .exact McA.beg (show McA n _ _ _ (sv S)from h.i) hi hs (.inl ⟨O,by rw[I]⟩)
  .obtain⟨e,H⟩:∃e,ClA n (ldW W t) (fC t n (ldW W)) (sv S) e:=h.i;exact⟨e,H.put hi hs (by rw[I]) (λ_ _=>rfl) (λ_=>H.f1 i hi ahB) (.inr ⟨by omega,by rw[I];show(3:Int)<=11;decide,by rw[I],λ_=>H.h10 i hi ahB⟩)⟩
 .have e:ba (sv S i)=sv S i:=by unfold ba;rw[if_neg O]
  rw[e,Fp h hi];exact h.i
def p9(k:Nat)(t m:Int)(n:Nat)(W W':List Int)(S:List Sp)(i:Nat)(p:Sp):Prop:=sm k t m n (ldW W') (sv (S.set i p))/\∀y,¬(t<=y/\y<t+szI k n m)->ldW W' y=ldW W y
def BW{S:List Sp}(h:cy k t m n W S)(h1:t<=x)(H:x<t+szI k n m):inR W x=true:=aT.2 (by have:=h.t1;have:=h.t2;omega)
def iE{S:List Sp}(h:cy k t m n W S)(h1:t<=x)(H:x<t+szI k n m)(v:Int):(∀y,ldW (stW W x v) y=if y=x then v else ldW W y)/\∀y,¬(t<=y/\y<t+szI k n m)->ldW (stW W x v) y=ldW W y:=by have e:=λy=>gC (BW h h1 H) v y;exact⟨e,λy I=>by rw[e,if_neg (by rintro rfl;exact I ⟨h1,H⟩)]⟩
end
section
variable{s:Ar}{S:List Sp}
def j9{i:Nat}(hi:i<S.length){k:Nat}(h:sm k t m n f (sv S)):sm k t m n f (sv (S.set i (sv S i))):=by
 have H:sv (S.set i (sv S i))=sv S:=by
  funext j;rw[svS hi];split;.rename_i e3;rw[e3]
  .rfl
 rw[H];exact h
def Ih(h:cy 1 t m n s.W S){i:Nat}(hi:i<n):p9 1 t m n s.W (wV t m s i (sv S i)).1.W S i (wV t m s i (sv S i)).2:=by
 have hl:i<S.length:=by rw[h.len];exact hi
 have O:gG t n (ldW s.W) (sv S):=h.i;have V:t<t+szI 1 n m:=by unfold szI;rw[if_pos rfl];omega
 have I:=BW h (Int.le_refl t) V;unfold wV;split
 .rename_i Ki;have hw:=iE h (Int.le_refl t) V ((i:Int)+1);have H:=gW s t 0 ((i:Int)+1);by_cases Y:ldW s.W t=0;.have hb:cJ s t 0=true:=(by unfold cJ;rw[I,Y];rfl);rw[hb]at H ⊢;rw[if_pos rfl]at H ⊢;refine⟨?_,by show ∀y,_->ldW (dX _ _ _ _).W y=_;rw[H];exact hw.2⟩;show gG t n (ldW (dX s t 0 ((i:Int)+1)).W) _;rw[H];exact O.get (svS hl _) hw.1 Y
  .have hb:cJ s t 0=false:=(by unfold cJ;rw[I];simp[Y]);rw[hb]at H ⊢;rw[if_neg ahD]at H ⊢;refine⟨?_,by show ∀y,_->ldW (dX _ _ _ _).W y=_;rw[H];exact λ_ _=>rfl⟩;show gG t n (ldW (dX s t 0 ((i:Int)+1)).W) _;rw[H];exact O.off (svS hl _) ahC
 split;.refine⟨?_,λ_ _=>rfl⟩;exact gG.off O (svS hl _) (by simp only;split<;>simp)
 split;.rename_i Ns;have hw:=iE h (Int.le_refl t) V 0;refine⟨?_,by show ∀y,_->ldW (ae _ _ _).W y=_;rw[ay];exact hw.2⟩;show gG t n (ldW (ae s t 0).W) _;rw[ay];exact O.put hi (svS hl _) hw.1 Ns rfl
 .exact aa4
def F9(h:cy 2 t m n s.W S)(hW:WdB B s)(Y:0<=B)(Lb:B<=10000000000000){i:Nat}(hi:i<n):p9 2 t m n s.W (pK t s (sv S i)).1.W S i (pK t s (sv S i)).2:=by
 have hl:i<S.length:=by rw[h.len];exact hi
 have H:dH t n (ldW s.W) (sv S):=h.i;have hz:szI 2 n m=2:=rfl;unfold pK;split;.have hw:=iE h (Int.le_refl t) ahW (ldW s.W t+1);have Pm:=hW.ld Y t;refine⟨?_,by show ∀y,_->ldW (addA _ _ _).W y=_;rw[d9,IntWalk.i64_in _ ahB];exact hw.2⟩;show dH t n (ldW (addA s t 1).W) _;rw[d9,IntWalk.i64_in _ ahB];exact H.take (svS hl _) rfl rfl hw.1
 split
 .rename_i O;refine⟨?_,by show ∀y,_->ldW (af _ _).W y=_;rw[aQ];exact λ_ _=>rfl⟩;show dH t n (ldW (af s (t+1)).W) _;rw[aQ];by_cases I:ldW s.W (t+1)=(sv S i).a;.exact H.enter hi (svS hl _) O (by simp[I]) rfl I
  .exact H.off (svS hl _) rfl (.inr (.inr (by simp[I,O])))
 split;.rename_i V;have hw:=iE h (show t<=t+1 by omega) ahW ((sv S i).a+1);refine⟨?_,by show ∀y,_->ldW (ae _ _ _).W y=_;rw[ay];exact hw.2⟩;show dH t n (ldW (ae s (t+1) _).W) _;rw[ay];exact H.put hi (svS hl _) V rfl hw.1
 .exact aa4
def F8(h:cy 3 t m n s.W S)(hW:WdB B s)(Y:0<=B)(Lb:B<=10000000000000){i:Nat}(hi:i<n):p9 3 t m n s.W (pk t m s (sv S i)).1.W S i (pk t m s (sv S i)).2:=by
 have hl:i<S.length:=by rw[h.len];exact hi
 obtain⟨v,H⟩:∃v,dZ t m n (ldW s.W) (sv S) v:=h.i;have hm:=h.m1;have hz:szI 3 n m=1+m:=rfl;unfold pk;split;.have hw:=iE h (Int.le_refl t) ahW (ldW s.W t+1);have Pm:=hW.ld Y t;refine⟨?_,by show ∀y,_->ldW (addA _ _ _).W y=_;rw[d9,IntWalk.i64_in _ ahB];exact hw.2⟩;show ∃v,dZ t m n (ldW (addA s t 1).W) _ v;rw[d9,IntWalk.i64_in _ ahB];exact⟨v,H.take hm (svS hl _) rfl rfl hw.1⟩
 split
 .rename_i O;refine⟨?_,by show ∀y,_->ldW (af _ _).W y=_;rw[aQ];exact λ_ _=>rfl⟩;show ∃v,dZ t m n (ldW (af s _).W) _ v;rw[aQ];by_cases I:ldW s.W (pPl t m (sv S i).a)=(sv S i).a+1;.exact⟨v,H.enter hm hi (svS hl _) O (by simp[I]) rfl I⟩
  .exact⟨v,H.off (svS hl _) rfl (.inr (.inr (by simp[I,O])))⟩
 split;.rename_i V;have hp:=xS t hm ((sv S i).a+1);have hw:=iE h (show t<=pPl t m ((sv S i).a+1)by omega) ahW ((sv S i).a+2);refine⟨?_,by show ∀y,_->ldW (ae _ _ _).W y=_;rw[ay];exact hw.2⟩;show ∃v,dZ t m n (ldW (ae s _ _).W) _ v;rw[ay];exact⟨v+1,H.put hm hi (svS hl _) V rfl hw.1⟩
 .exact aa4
def Ic(h:cy 5 t m n s.W S){i:Nat}(hi:i<n):p9 5 t m n s.W (vm t s (sv S i)).1.W S i (vm t s (sv S i)).2:=by
 have hl:i<S.length:=by rw[h.len];exact hi
 obtain⟨e,H⟩:∃e,ClA n (ldW s.W t) (fC t n (ldW s.W)) (sv S) e:=h.i;have hz:szI 5 n m=(n:Int)+2:=rfl;have Y:=H.a0 i hi;unfold vm;split;.rename_i h1;have hw:=iE h (show t<=t+(sv S i).a by omega) ahW 1;have I:=E9 hw.1 Y;refine⟨?_,by show ∀y,_->ldW (ae _ _ _).W y=_;rw[ay];exact hw.2⟩;show ∃e,ClA n (ldW (ae s _ _).W t) (fC t n (ldW (ae s _ _).W)) _ e;rw[ay,I.1,I.2];exact⟨e,H.put hi (svS hl _) rfl (λy hy=>eG _ hy) (λ_=>gS _ _ _) (.inl ⟨by omega,by show(2:Int)<3;decide⟩)⟩
 split;.rename_i h2;have hw:=iE h (Int.le_refl t) ahW (sv S i).a;have I:=F6 (n:=n) hw.1;refine⟨?_,by show ∀y,_->ldW (cr _ _ _).W y=_;rw[dP];exact hw.2⟩;show ∃e,ClA n (ldW (cr s _ _).W t) (fC t n (ldW (cr s _ _).W)) _ e;rw[dP,I.1,I.2];exact⟨e,H.swap hi (svS hl _) h2 rfl rfl rfl⟩
 split
 .rename_i V;refine⟨?_,by show ∀y,_->ldW (af _ _).W y=_;rw[aQ];exact λ_ _=>rfl⟩;show ∃e,ClA n (ldW (af s _).W t) (fC t n (ldW (af s _).W)) _ e;rw[aQ];have hq:=H.bq i hi ahB;have hb:1<=(sv S i).b/\(sv S i).b<=(n:Int)+1:=hq.elim (λh=>by rw[h];exact H.e0) fun⟨j,hj,h,_⟩=>by rw[h];exact H.a0 j hj
  have hC:fC t n (ldW s.W) (sv S i).b=ldW s.W (t+(sv S i).b):=if_pos hb;by_cases O:ldW s.W (t+(sv S i).b)=0;.exact⟨e,H.put hi (svS hl _) rfl (λ_ _=>rfl) (λ_=>H.f1 i hi ahB) (.inr ⟨by omega,by simp[O],rfl,λ_=>hq.elim id fun⟨j,hj,h,V⟩=>absurd (H.f1 j hj ahB) (by rw[<-h,hC,O];decide)⟩)⟩
  .have:({(sv S i)with pc:=if ldW s.W (t+(sv S i).b)=0 then 10 else 3}:Sp)=sv S i:=(by rw[if_neg O,<-V]);rw[this];exact j9 (k:=5) (m:=m) hl h.i
 split;.rename_i Ns;have hw:=iE h (show t<=t+(sv S i).a by omega) ahW 0;have I:=E9 hw.1 Y;refine⟨?_,by show ∀y,_->ldW (ae _ _ _).W y=_;rw[ay];exact hw.2⟩;show ∃e,ClA n (ldW (ae s _ _).W t) (fC t n (ldW (ae s _ _).W)) _ e;rw[ay,I.1,I.2];exact⟨_,H.o hi (svS hl {(sv S i)with a:=(sv S i).b,pc:=0}) ahB rfl rfl rfl⟩
 .exact aa4
def Ig(h:cy 4 t m n s.W S){i:Nat}(hi:i<n)(hc:iY (sv S i)):p9 4 t m n s.W (mF t s i (sv S i)).1.W S i (mF t s i (sv S i)).2:=by have hz:szI 4 n m=1+2*(n:Int):=rfl;obtain⟨H,I⟩:=McA.go (show McA n _ _ _ _ from h.i) hi h.len (λx v h1 V=>(iE h h1 ahW v).1) (BW h (Int.le_refl t) ahW) rfl hc rfl;exact⟨H,λy O=>I y (by rw[hz]at O;omega)⟩
def cy.step{k:Nat}(h:cy k t m n s.W S)(hk:1<=k/\k<=5)(V:WdB B s)(O:0<=B)(I:B<=10000000000000){i:Nat}(hi:i<n)(hc:pcK k (sv S i)):cy k t m n (bN k t m s i (sv S i)).1.W (S.set i (bN k t m s i (sv S i)).2)/\∀y,¬(t<=y/\y<t+szI k n m)->ldW (bN k t m s i (sv S i)).1.W y=ldW s.W y:=by
  have hl:=(db k t m s i (sv S i)).2
  have H:p9 k t m n s.W (bN k t m s i (sv S i)).1.W S i (bN k t m s i (sv S i)).2:=by
    have Y:k=1\/k=2\/k=3\/k=4\/k=5:=(by omega);rcases Y with rfl|rfl|rfl|rfl|rfl
    . exact Ih h hi
    . exact F9 h V O I hi
    . exact F8 h V O I hi
    . exact Ig h hi hc
    . exact Ic h hi
  exact⟨⟨by rw[List.length_set];exact h.len,h.m1,h.t1,by rw[hl];exact h.t2,H.1⟩,H.2⟩
end
end
end Go.Proofs.YtglokdbiggbkjaaGreat
